/- homesteadlaw26.LightMaps. -/
import Derived.Test.YtchdgiooggdfeaaGd
import Derived.Test.YtchdgiooggdfeaaGo
import Derived.Test.YtchdgiooggdfeaaGi
set_option linter.unusedSimpArgs false
set_option linter.unusedVariables false
set_option maxRecDepth 100000
set_option maxHeartbeats 16000000
namespace Go.Proofs.Ytchdgiooggdfeaa
open Go Go.RowKit Eng
theorem tmod_pos {n s : Int} (h : 1 ≤ s) : (if Int.tmod n s < 0 then Int.tmod n s + s else Int.tmod n s) = n % s:=by
 rw [Int.tmod_eq_emod]
 have h1:=Int.emod_nonneg n (by omega : s ≠ 0)
 have h2:=Int.emod_lt_of_pos n (by omega : 0 < s)
 by_cases hd : 0 ≤ n ∨ s ∣ n
 · rw [if_pos hd];split<;>omega
 · rw [if_neg hd];split<;>omega
theorem tmod_bd {n s : Int} (h : 1 ≤ s) : -s < Int.tmod n s ∧ Int.tmod n s < s:=by
 rw [Int.tmod_eq_emod]
 have h1:=Int.emod_nonneg n (by omega : s ≠ 0)
 have h2:=Int.emod_lt_of_pos n (by omega : 0 < s)
 have h3 : n % s = 0 → s ∣ n:=Int.dvd_of_emod_eq_zero
 by_cases hd : 0 ≤ n ∨ s ∣ n
 · rw [if_pos hd];omega
 · rw [if_neg hd];omega
theorem pick_api (n s : Int) (hs : 1 ≤ s) (hs2 : s ≤ 4611686018427387904) : Api Try.prog 17 [i64 n,i64 s] (i64 (n % s)):=by
 have hb:=tmod_bd (n:=n) hs
 have he:=tmod_pos (n:=n) hs
 refine Api.of_fin cfg_ok Try.func17 rfl (nt:=14) rfl rfl ?_
 conv=>whnf
 repeat' (first|exact trivial|((first|refine kL ?_|(refine ⟨fun hb=>?_,fun hb=>?_⟩<;>(try simp only [nrm] at hb)<;>(try (first|(exfalso;omega)|contradiction|exact kB hb)))|(refine .inr ⟨(by omega : s ≠ 0),?_⟩)|refine kW cfg_ok ?_|refine kC ?_|refine bdA ?_|refine bd2 ?_|refine bdR ?_|refine bdL ?_)<;>(conv=>whnf))|(refine And.intro ?_ ?_;rotate_left;(conv=>whnf);rotate_right))
open Go Go.RowKit Eng
theorem lmapsIn_api (w : Wld) (hw : OkW w) (hR : RW w) (hg : great6 w = false) (a0 a1 b0 b1 : Int) (hb0 : 0 ≤ b0 ∧ b0 ≤ 255) (hb1 : 0 ≤ b1 ∧ b1 ≤ 255) (M G : List (List Int)) (hm : Api Try.prog 14 [wldV w,i64 (a0 % (8 * w.size + 8) - 4),i64 (a1 % (8 * w.size + 8) - 4),i64 (1 + b0 % 12),i64 (1 + b1 % 12)] (.vec .ints M)) (hG : Api Try.prog 14 [wldV w,i64 (a0 % (8 * w.size + 8) - 4 - 2),i64 (a1 % (8 * w.size + 8) - 4 - 3),i64 (1 + b0 % 12 + 5),i64 (1 + b1 % 12 + 4)] (.vec .ints G)) (hMl : (M.length : Int) = 1 + b1 % 12) (hGl : (G.length : Int) = 1 + b1 % 12 + 4) (hMr : ∀ b : Nat,(b : Int) < 1 + b1 % 12 → ((elt .ints M b).length : Int) = 1 + b0 % 12) (hGr : ∀ b : Nat,(b : Int) < 1 + b1 % 12 + 4 → ((elt .ints G b).length : Int) = 1 + b0 % 12 + 5) (hp : ∀ a b : Nat,(a : Int) < 1 + b0 % 12 → (b : Int) < 1 + b1 % 12 → elt .i64 (elt .ints M b) a = elt .i64 (elt .ints G (b + 3)) (a + 2)) (L : Int) (ok : Bool) (hl : Api Try.prog 11 [wldV w,i64 (a0 % (8 * w.size + 8) - 4 + b1 % (1 + b0 % 12)),i64 (a1 % (8 * w.size + 8) - 4 + b0 % (1 + b1 % 12))] (.tup [i64 L,bol ok])) (hL : (ok = true ∧ L = elt .i64 (elt .ints M (b0 % (1 + b1 % 12)).toNat) (b1 % (1 + b0 % 12)).toNat) ∨ (ok = false ∧ elt .i64 (elt .ints M (b0 % (1 + b1 % 12)).toNat) (b1 % (1 + b0 % 12)).toNat = -1)) (haw : Api Try.prog 10 [] (bol true)) : Api Try.prog 4 [wldV w,.agg [i64 a0,i64 a1],.agg [.lit (.int .u8 b0),.lit (.int .u8 b1)]] (bol true):=by
 have hsz:=hR.size
 have hgr:=great6_api w hw
 rw [hg] at hgr
 have hrt:=rightW_api w hw
 rw [rightW_iff.2 hR] at hrt
 have hk0:=pick_api a0 (8 * w.size + 8) (by omega) (by omega)
 have hk1:=pick_api a1 (8 * w.size + 8) (by omega) (by omega)
 have q0 : 0 ≤ a0 % (8 * w.size + 8) ∧ a0 % (8 * w.size + 8) < 8 * w.size + 8:=⟨Int.emod_nonneg _ (by omega),Int.emod_lt_of_pos _ (by omega)⟩
 have q1 : 0 ≤ a1 % (8 * w.size + 8) ∧ a1 % (8 * w.size + 8) < 8 * w.size + 8:=⟨Int.emod_nonneg _ (by omega),Int.emod_lt_of_pos _ (by omega)⟩
 have q2 : 0 ≤ b1 % (1 + b0 % 12) ∧ b1 % (1 + b0 % 12) < 1 + b0 % 12:=⟨Int.emod_nonneg _ (by omega),Int.emod_lt_of_pos _ (by omega)⟩
 have q3 : 0 ≤ b0 % (1 + b1 % 12) ∧ b0 % (1 + b1 % 12) < 1 + b1 % 12:=⟨Int.emod_nonneg _ (by omega),Int.emod_lt_of_pos _ (by omega)⟩
 refine Api.of_fin cfg_ok Try.func4 rfl (nt:=154) rfl rfl ?_
 conv=>whnf
 repeat' (first|exact trivial|((first|refine kL ?_|(refine ⟨fun hb=>?_,fun hb=>?_⟩<;>(try simp only [nrm] at hb)<;>(try (first|(exfalso;omega)|contradiction|exact kB hb)))|refine kA hgr ?_|refine kD hgr ?_|refine kA hrt ?_|refine kD hrt ?_|refine kA hk0 ?_|refine kD hk0 ?_|refine kA hk1 ?_|refine kD hk1 ?_|refine kA hm ?_|refine kD hm ?_|refine kA hG ?_|refine kD hG ?_|refine kW cfg_ok ?_|refine kC ?_|refine bdA ?_|refine bd2 ?_|refine bdR ?_|refine bdL ?_)<;>(conv=>whnf))|(refine And.intro ?_ ?_;rotate_left;(conv=>whnf);rotate_right))
 all_goals first|omega|skip
 refine Runs.loopQ cfg_ok (σ:=Nat) [3,5,8,9,10,11,12,13,80,81] (fun b=>[.ptr 6 0,.ptr 10 0,i64 (a0 % (8 * w.size + 8) - 4),i64 (a1 % (8 * w.size + 8) - 4),i64 (1 + b0 % 12),i64 (1 + b1 % 12),.vec .ints M,.vec .ints G,i64 (1 + b1 % 12),i64 (b : Nat)])
   (fun b=>[(6,.box (wldC w)),(10,.box [.lit (.int .u8 b0),.lit (.int .u8 b1)])])
   (fun b=>(b : Int) ≤ 1 + b1 % 12) (fun b=>(1 + b1 % 12).toNat - b) 0 (by omega) ?_ ?_
 · conv=>whnf
   repeat' (first|exact trivial|((first|refine kL ?_|(refine ⟨fun hb=>?_,fun hb=>?_⟩<;>(try simp only [nrm] at hb)<;>(try (first|(exfalso;omega)|contradiction|exact kB hb)))|refine kW cfg_ok ?_|refine kC ?_|refine bdA ?_|refine bd2 ?_|refine bdR ?_|refine bdL ?_)<;>(conv=>whnf))|(refine And.intro ?_ ?_;rotate_left;(conv=>whnf);rotate_right))
   all_goals first|rfl|omega|trace_state
 · intro b hb N1 hN1 hE1 hT1
   by_cases hlt : (b : Int) < 1 + b1 % 12
   · have hr1:=hMr b hlt
     have e1 : ((b : Int) + 3).toNat = b + 3:=by omega
     have hr2:=hGr (b + 3) (by omega)
     rw [← e1] at hr2
     have hpb:=fun a h=>hp a b h hlt
     conv=>whnf
     repeat' (first|exact trivial|((first|refine kL ?_|(refine ⟨fun hb=>?_,fun hb=>?_⟩<;>(try simp only [nrm] at hb)<;>(try (first|(exfalso;omega)|contradiction|exact kB hb)))|refine kW cfg_ok ?_|refine kC ?_|refine bdA ?_|refine bd2 ?_|refine bdR ?_|refine bdL ?_)<;>(conv=>whnf))|(refine And.intro ?_ ?_;rotate_left;(conv=>whnf);rotate_right))
     all_goals first|omega|skip
     refine Runs.loopQ cfg_ok (σ:=Nat) [3,5,8,9,10,11,12,13,14,80,81,84,85] (fun a=>[.ptr 6 0,.ptr 10 0,i64 (a0 % (8 * w.size + 8) - 4),i64 (a1 % (8 * w.size + 8) - 4),i64 (1 + b0 % 12),i64 (1 + b1 % 12),.vec .ints M,.vec .ints G,i64 (b : Nat),i64 (1 + b1 % 12),i64 (b : Nat),i64 (1 + b0 % 12),i64 (a : Nat)])
       (fun a=>[(6,.box (wldC w)),(10,.box [.lit (.int .u8 b0),.lit (.int .u8 b1)])])
       (fun a=>(a : Int) ≤ 1 + b0 % 12) (fun a=>(1 + b0 % 12).toNat - a) 0 (by omega) ?_ ?_
     · conv=>whnf
       repeat' (first|exact trivial|((first|refine kL ?_|(refine ⟨fun hb=>?_,fun hb=>?_⟩<;>(try simp only [nrm] at hb)<;>(try (first|(exfalso;omega)|contradiction|exact kB hb)))|refine kW cfg_ok ?_|refine kC ?_|refine bdA ?_|refine bd2 ?_|refine bdR ?_|refine bdL ?_)<;>(conv=>whnf))|(refine And.intro ?_ ?_;rotate_left;(conv=>whnf);rotate_right))
       all_goals first|rfl|omega|trace_state
     · intro a ha N2 hN2 hE2 hT2
       by_cases hla : (a : Int) < 1 + b0 % 12
       · have hpa:=hpb a hla
         have e2 : ((a : Int) + 2).toNat = a + 2:=by omega
         rw [← e1,← e2] at hpa
         conv=>whnf
         repeat' (first|exact trivial|((first|refine kL ?_|(refine ⟨fun hb=>?_,fun hb=>?_⟩<;>(try simp only [nrm] at hb)<;>(try (first|(exfalso;omega)|contradiction|exact kB hb)))|refine kW cfg_ok ?_|refine kC ?_|refine bdA ?_|refine bd2 ?_|refine bdR ?_|refine bdL ?_)<;>(conv=>whnf))|(refine And.intro ?_ ?_;rotate_left;(conv=>whnf);rotate_right))
         all_goals first|omega|skip
         all_goals
           refine hN2 _ _ ?_
           conv=>whnf
           refine .to (a + 1) (by omega) (by omega) ?_
           conv=>whnf
           repeat' (first|exact trivial|((first|refine kL ?_|(refine ⟨fun hb=>?_,fun hb=>?_⟩<;>(try simp only [nrm] at hb)<;>(try (first|(exfalso;omega)|contradiction|exact kB hb)))|refine kW cfg_ok ?_|refine kC ?_|refine bdA ?_|refine bd2 ?_|refine bdR ?_|refine bdL ?_)<;>(conv=>whnf))|(refine And.intro ?_ ?_;rotate_left;(conv=>whnf);rotate_right))
           all_goals first|rfl|omega|trace_state
       · conv=>whnf
         repeat' (first|exact trivial|((first|refine kL ?_|(refine ⟨fun hb=>?_,fun hb=>?_⟩<;>(try simp only [nrm] at hb)<;>(try (first|(exfalso;omega)|contradiction|exact kB hb)))|refine kW cfg_ok ?_|refine kC ?_|refine bdA ?_|refine bd2 ?_|refine bdR ?_|refine bdL ?_)<;>(conv=>whnf))|(refine And.intro ?_ ?_;rotate_left;(conv=>whnf);rotate_right))
         all_goals first|omega|skip
         refine hE2 _ _ _ ?_
         conv=>whnf
         repeat' (first|exact trivial|((first|refine kL ?_|(refine ⟨fun hb=>?_,fun hb=>?_⟩<;>(try simp only [nrm] at hb)<;>(try (first|(exfalso;omega)|contradiction|exact kB hb)))|refine kW cfg_ok ?_|refine kC ?_|refine bdA ?_|refine bd2 ?_|refine bdR ?_|refine bdL ?_)<;>(conv=>whnf))|(refine And.intro ?_ ?_;rotate_left;(conv=>whnf);rotate_right))
         all_goals first|omega|skip
         refine hN1 _ _ ?_
         conv=>whnf
         refine .to (b + 1) (by omega) (by omega) ?_
         conv=>whnf
         repeat' (first|exact trivial|((first|refine kL ?_|(refine ⟨fun hb=>?_,fun hb=>?_⟩<;>(try simp only [nrm] at hb)<;>(try (first|(exfalso;omega)|contradiction|exact kB hb)))|refine kW cfg_ok ?_|refine kC ?_|refine bdA ?_|refine bd2 ?_|refine bdR ?_|refine bdL ?_)<;>(conv=>whnf))|(refine And.intro ?_ ?_;rotate_left;(conv=>whnf);rotate_right))
         all_goals first|rfl|omega|trace_state
   · rcases hL with ⟨hok,hL⟩|⟨hok,hL⟩
     · subst hok
       have hr1:=hMr (b0 % (1 + b1 % 12)).toNat (by omega)
       conv=>whnf
       repeat' (first|exact trivial|((first|refine kL ?_|(refine ⟨fun hb=>?_,fun hb=>?_⟩<;>(try simp only [nrm] at hb)<;>(try (first|(exfalso;omega)|contradiction|exact kB hb)))|refine kW cfg_ok ?_|refine kC ?_|refine bdA ?_|refine bd2 ?_|refine bdR ?_|refine bdL ?_)<;>(conv=>whnf))|(refine And.intro ?_ ?_;rotate_left;(conv=>whnf);rotate_right))
       all_goals first|omega|skip
       refine hE1 _ _ _ ?_
       conv=>whnf
       repeat' (first|exact trivial|((first|refine kL ?_|(refine ⟨fun hb=>?_,fun hb=>?_⟩<;>(try simp only [nrm] at hb)<;>(try (first|(exfalso;omega)|contradiction|exact kB hb)))|refine kA hl ?_|refine kD hl ?_|refine kA haw ?_|refine kD haw ?_|refine kW cfg_ok ?_|refine kC ?_|refine bdA ?_|refine bd2 ?_|refine bdR ?_|refine bdL ?_)<;>(conv=>whnf))|(refine And.intro ?_ ?_;rotate_left;(conv=>whnf);rotate_right))
       all_goals first|rfl|omega|trace_state
     · subst hok
       have hr1:=hMr (b0 % (1 + b1 % 12)).toNat (by omega)
       conv=>whnf
       repeat' (first|exact trivial|((first|refine kL ?_|(refine ⟨fun hb=>?_,fun hb=>?_⟩<;>(try simp only [nrm] at hb)<;>(try (first|(exfalso;omega)|contradiction|exact kB hb)))|refine kW cfg_ok ?_|refine kC ?_|refine bdA ?_|refine bd2 ?_|refine bdR ?_|refine bdL ?_)<;>(conv=>whnf))|(refine And.intro ?_ ?_;rotate_left;(conv=>whnf);rotate_right))
       all_goals first|omega|skip
       refine hE1 _ _ _ ?_
       conv=>whnf
       repeat' (first|exact trivial|((first|refine kL ?_|(refine ⟨fun hb=>?_,fun hb=>?_⟩<;>(try simp only [nrm] at hb)<;>(try (first|(exfalso;omega)|contradiction|exact kB hb)))|refine kA hl ?_|refine kD hl ?_|refine kA haw ?_|refine kD haw ?_|refine kW cfg_ok ?_|refine kC ?_|refine bdA ?_|refine bd2 ?_|refine bdR ?_|refine bdL ?_)<;>(conv=>whnf))|(refine And.intro ?_ ?_;rotate_left;(conv=>whnf);rotate_right))
       all_goals first|rfl|omega|trace_state
open Go Go.RowKit Eng
theorem lmapsNo1_api (w : Wld) (hw : OkW w) (hg : great6 w = true) (a0 a1 b0 b1 : Int) : Api Try.prog 4 [wldV w,.agg [i64 a0,i64 a1],.agg [.lit (.int .u8 b0),.lit (.int .u8 b1)]] (bol true):=by
 have haw:=awake26_api
 have hgr:=great6_api w hw
 rw [hg] at hgr
 refine Api.of_fin cfg_ok Try.func4 rfl (nt:=154) rfl rfl ?_
 conv=>whnf
 repeat' (first|exact trivial|((first|refine kL ?_|(refine ⟨fun hb=>?_,fun hb=>?_⟩<;>(try simp only [nrm] at hb)<;>(try (first|(exfalso;omega)|contradiction|exact kB hb)))|refine kA hgr ?_|refine kD hgr ?_|refine kA haw ?_|refine kD haw ?_|refine kW cfg_ok ?_|refine kC ?_|refine bdA ?_|refine bd2 ?_|refine bdR ?_|refine bdL ?_)<;>(conv=>whnf))|(refine And.intro ?_ ?_;rotate_left;(conv=>whnf);rotate_right))
 all_goals first|rfl|omega|trace_state
theorem lmapsNo2_api (w : Wld) (hw : OkW w) (hg : great6 w = false) (hR : rightW w = false) (a0 a1 b0 b1 : Int) : Api Try.prog 4 [wldV w,.agg [i64 a0,i64 a1],.agg [.lit (.int .u8 b0),.lit (.int .u8 b1)]] (bol true):=by
 have haw:=awake26_api
 have hgr:=great6_api w hw
 rw [hg] at hgr
 have hrt:=rightW_api w hw
 rw [hR] at hrt
 refine Api.of_fin cfg_ok Try.func4 rfl (nt:=154) rfl rfl ?_
 conv=>whnf
 repeat' (first|exact trivial|((first|refine kL ?_|(refine ⟨fun hb=>?_,fun hb=>?_⟩<;>(try simp only [nrm] at hb)<;>(try (first|(exfalso;omega)|contradiction|exact kB hb)))|refine kA hgr ?_|refine kD hgr ?_|refine kA hrt ?_|refine kD hrt ?_|refine kA haw ?_|refine kD haw ?_|refine kW cfg_ok ?_|refine kC ?_|refine bdA ?_|refine bd2 ?_|refine bdR ?_|refine bdL ?_)<;>(conv=>whnf))|(refine And.intro ?_ ?_;rotate_left;(conv=>whnf);rotate_right))
 all_goals first|rfl|omega|trace_state
theorem lmaps_api (w : Wld) (hw : OkW w) (a0 a1 b0 b1 : Int) (hb0 : 0 ≤ b0 ∧ b0 ≤ 255) (hb1 : 0 ≤ b1 ∧ b1 ≤ 255) : Api Try.prog 4 [wldV w,.agg [i64 a0,i64 a1],.agg [.lit (.int .u8 b0),.lit (.int .u8 b1)]] (bol true):=by
 cases hg : great6 w with
 | true=>exact lmapsNo1_api w hw hg a0 a1 b0 b1
 | false =>
   cases hR : rightW w with
   | false=>exact lmapsNo2_api w hw hg hR a0 a1 b0 b1
   | true =>
     have hr:=rightW_iff.1 hR
     have hsz:=hr.size
     obtain ⟨wide,hwd⟩ : ∃ n : Nat,(n : Int) = 1 + b0 % 12:=⟨(1 + b0 % 12).toNat,by omega⟩
     obtain ⟨high,hhi⟩ : ∃ n : Nat,(n : Int) = 1 + b1 % 12:=⟨(1 + b1 % 12).toNat,by omega⟩
     have q2 : 0 ≤ b1 % (1 + b0 % 12) ∧ b1 % (1 + b0 % 12) < 1 + b0 % 12:=⟨Int.emod_nonneg _ (by omega),Int.emod_lt_of_pos _ (by omega)⟩
     have q3 : 0 ≤ b0 % (1 + b1 % 12) ∧ b0 % (1 + b1 % 12) < 1 + b1 % 12:=⟨Int.emod_nonneg _ (by omega),Int.emod_lt_of_pos _ (by omega)⟩
     have hm:=map_api w (a0 % (8 * w.size + 8) - 4) (a1 % (8 * w.size + 8) - 4) wide high hw hR (by omega)
     have hG:=map_api w (a0 % (8 * w.size + 8) - 4 - 2) (a1 % (8 * w.size + 8) - 4 - 3) (wide + 5) (high + 4) hw hR (by omega)
     rw [hwd,hhi] at hm
     rw [show ((wide + 5 : Nat) : Int) = 1 + b0 % 12 + 5 by omega,show ((high + 4 : Nat) : Int) = 1 + b1 % 12 + 4 by omega] at hG
     have hl:=light_api w (a0 % (8 * w.size + 8) - 4 + b1 % (1 + b0 % 12)) (a1 % (8 * w.size + 8) - 4 + b0 % (1 + b1 % 12)) hw hR
     have hL:=map_light hsz.1 (a0 % (8 * w.size + 8) - 4) (a1 % (8 * w.size + 8) - 4) (wide:=wide) (high:=high) (a:=(b1 % (1 + b0 % 12)).toNat) (b:=(b0 % (1 + b1 % 12)).toNat) (by omega) (by omega)
     rw [Int.toNat_of_nonneg q2.1,Int.toNat_of_nonneg q3.1] at hL
     have h1:=mapW_len w (a0 % (8 * w.size + 8) - 4) (a1 % (8 * w.size + 8) - 4) wide high
     have h2:=mapW_len w (a0 % (8 * w.size + 8) - 4 - 2) (a1 % (8 * w.size + 8) - 4 - 3) (wide + 5) (high + 4)
     have h3:=fun b h=>@mapW_row w (a0 % (8 * w.size + 8) - 4) (a1 % (8 * w.size + 8) - 4) wide high b h
     have h4:=fun b h=>@mapW_row w (a0 % (8 * w.size + 8) - 4 - 2) (a1 % (8 * w.size + 8) - 4 - 3) (wide + 5) (high + 4) b h
     have h5:=fun a b ha hb=>@map_part w hsz.1 (a0 % (8 * w.size + 8) - 4) (a1 % (8 * w.size + 8) - 4) wide high a b ha hb
     generalize mapW w (a0 % (8 * w.size + 8) - 4) (a1 % (8 * w.size + 8) - 4) wide high = M at *
     generalize mapW w (a0 % (8 * w.size + 8) - 4 - 2) (a1 % (8 * w.size + 8) - 4 - 3) (wide + 5) (high + 4) = G at *
     generalize lightW w (a0 % (8 * w.size + 8) - 4 + b1 % (1 + b0 % 12)) (a1 % (8 * w.size + 8) - 4 + b0 % (1 + b1 % 12)) = LL at *
     refine lmapsIn_api w hw hr hg a0 a1 b0 b1 hb0 hb1 M G hm hG (by omega) (by omega) (fun b hb=>?_) (fun b hb=>?_) (fun a b ha hb=>h5 a b (by omega) (by omega)) LL.1 LL.2 hl hL awake26_api
     · rw [h3 b (by omega)];exact hwd
     · rw [h4 b (by omega)];omega
end Go.Proofs.Ytchdgiooggdfeaa
