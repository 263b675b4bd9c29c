/- homesteadref12; homesteadref13's Right, Copied, Chunk, Player. -/
import Derived.Test.YtaecchphjploaaaGreatGf
import Derived.Test.YtaecchphjploaaaGreatGc
import Derived.Test.YtaecchphjploaaaGreatGs
import Derived.Test.YtaecchphjploaaaGreatGk
import Derived.Test.YtaecchphjploaaaGreatGr
set_option linter.unusedSimpArgs false
set_option linter.unusedVariables false
set_option maxRecDepth 100000
set_option maxHeartbeats 16000000
namespace Go.Proofs.YtaecchphjploaaaGreat
open Go Go.RowKit Eng
open Go Go.RowKit Eng
abbrev F4 : AV:=.lit (.slice none 0 0)
theorem pG (p : Player) (hp : OkP p) : Api Tryz.prog 65 [cN p] (bol (bN p)):=by
 have h1:=kM p.bag 8 (by have:=hp.nb;unfold big;omega) hp.bag
 have h2:=kM p.offer 8 (by have:=hp.no;unfold big;omega) hp.offer
 have h3:=hp.no
 change Api _ _ _ (bol (kq p.bag)) at h1
 change Api _ _ _ (bol (kq p.offer)) at h2
 unfold bN
 generalize kq p.bag = b1 at *
 generalize kq p.offer = b2 at *
 cases b1<;>cases b2<;>cases hag : p.agrees
 all_goals
  refine aF Tryz.func65 48 ?_
  conv=>whnf
  repeat' (first|exact trivial|((first|(refine ⟨fun hb=>?_,fun hb=>?_⟩<;>(try simp only [nrm] at hb)<;>try exact kZ hb)|refine kV ?_)<;>(conv=>whnf))|refine kY ?_ ?_)
  all_goals first
   | (refine congrArg Value.bool ?_;simp;done)
   | (refine congrArg Value.bool ?_;simp;omega)
   | (refine congrArg Value.bool ?_;simp [*];done)
   | (refine congrArg Value.bool ?_;simp [*];omega)
   | (refine congrArg Value.bool ?_;simp_all;done)
   | (refine congrArg Value.bool ?_;simp_all;omega)
   | (simp_all;done)
open Go Go.RowKit Eng
abbrev pc : List AV:=[i64 0,.lit (.int .u64 0),i64 0,.lit (.slice none 0 0),.lit (.slice none 0 0)]
theorem nA (w : Wld) (hw : OkW w) : Api Tryz.prog 14 [eK w] (eK w):=by
 have h1:=hw.nc
 have h2:=hw.np
 refine aF Tryz.func14 60 ?_
 ((try with_reducible refine af fun N hN hE hT=>?_);(conv=>whnf))
 repeat' (first|exact trivial|((first|((first|apply hT|apply hE|apply hN);clear hN hE hT)|(refine ⟨fun hb=>?_,fun hb=>?_⟩<;>(try simp only [nrm] at hb)<;>try exact kZ hb)|refine kV ?_)<;>((try with_reducible refine af fun N hN hE hT=>?_);(conv=>whnf)))|refine kY ?_ ?_)
 refine aw.loopS aa (σ:=Nat) [1,2,3,4] (fun k=>[.ptr 2 0,.ptr 4 0,.ptr 6 0,i64 k]) (fun k=>[(2,.box (dw w)),(4,.box pc),(6,.box [i64 w.size,.lit (.int .u64 w.seed),i64 w.tick,.own .chunk 150101 0 k none,.lit (.slice none 0 0)]),(150101,.row .chunk (w.chunks.take k))]) (fun k=>k ≤ w.chunks.length) (fun k=>w.chunks.length - k) 0 (by omega) ?_ ?_
 ·exact fB0
 ·intro k hk
  by_cases hlt : k < w.chunks.length
  ·have hf:=hw.fit _ (ay (t:=.chunk) hlt)
   have hcp:=kK (elt .chunk w.chunks k) hf
   have hnx:=oG (tt:=.chunk) hlt
   conv=>whnf
   repeat' (first|exact trivial|((first|((first|apply hT|apply hE|apply hN);clear hN hE hT)|refine kL ?_|(refine ⟨fun hb=>?_,fun hb=>?_⟩<;>(try simp only [nrm] at hb)<;>try exact kZ hb)|refine kE hcp [(390001,150001),(390003,150003),(390005,150005)] rfl ?_|refine kF hcp [(390001,150001),(390003,150003),(390005,150005)] rfl ?_|refine kV ?_)<;>((try with_reducible refine af fun N hN hE hT=>?_);(conv=>whnf)))|refine kY ?_ ?_)
   refine .to (k + 1) hlt (by omega) ?_
   conv=>whnf
   repeat' (first|exact trivial|((first|((first|apply hT|apply hE|apply hN);clear hN hE hT)|(refine ⟨fun hb=>?_,fun hb=>?_⟩<;>(try simp only [nrm] at hb)<;>try exact kZ hb)|refine kV ?_)<;>((try with_reducible refine af fun N hN hE hT=>?_);(conv=>whnf)))|refine kY ?_ ?_)
   all_goals first|rfl|(simp;done)|(simp;exact D1 hnx hlt (wB _ _) rfl rfl)|trace_state
  ·obtain rfl : k = w.chunks.length:=by omega
   rw [List.take_length]
   conv=>whnf
   repeat' (first|exact trivial|((first|((first|apply hT|apply hE|apply hN);clear hN hE hT)|(refine ⟨fun hb=>?_,fun hb=>?_⟩<;>(try simp only [nrm] at hb)<;>try exact kZ hb)|refine kV ?_)<;>((try with_reducible refine af fun N hN hE hT=>?_);(conv=>whnf)))|refine kY ?_ ?_)
   refine aw.loopS aa (σ:=Nat) [1,2,3,5] (fun k=>[.ptr 2 0,.ptr 4 0,.ptr 6 0,i64 k]) (fun k=>[(2,.box (dw w)),(4,.box pc),(6,.box [i64 w.size,.lit (.int .u64 w.seed),i64 w.tick,.own .chunk 150101 0 w.chunks.length none,.own .player 150103 0 k none]),(150101,.row .chunk w.chunks),(150103,.row .player (w.players.take k))]) (fun k=>k ≤ w.players.length) (fun k=>w.players.length - k) 0 (by omega) ?_ ?_
   ·exact fB0
   ·intro k hk
    by_cases hlt : k < w.players.length
    ·have hf:=hw.players _ (ay (t:=.player) hlt)
     have n1:=hf.nb
     have n2:=hf.no
     have hnx:=oG (tt:=.player) hlt
     conv=>whnf
     repeat' (first|exact trivial|((first|((first|apply hT|apply hE|apply hN);clear hN hE hT)|(refine ⟨fun hb=>?_,fun hb=>?_⟩<;>(try simp only [nrm] at hb)<;>try exact kZ hb)|refine kV ?_)<;>((try with_reducible refine af fun N hN hE hT=>?_);(conv=>whnf)))|refine kY ?_ ?_)
     refine .to (k + 1) hlt (by omega) ?_
     conv=>whnf
     repeat' (first|exact trivial|((first|((first|apply hT|apply hE|apply hN);clear hN hE hT)|(refine ⟨fun hb=>?_,fun hb=>?_⟩<;>(try simp only [nrm] at hb)<;>try exact kZ hb)|refine kV ?_)<;>((try with_reducible refine af fun N hN hE hT=>?_);(conv=>whnf)))|refine kY ?_ ?_)
     all_goals first|rfl|(simp;done)|(simp;exact D1 hnx hlt (wB _ _) rfl rfl)|trace_state
    ·obtain rfl : k = w.players.length:=by omega
     rw [List.take_length]
     exact fB0
theorem Ft {s x y : Int} (hs : 1 ≤ s ∧ s ≤ 16) : bB s x y = true ↔ 0 ≤ x ∧ 0 ≤ y ∧ x < 8 * s ∧ y < 8 * s:=by
 unfold bB
 rw [vz (by omega) (by omega)]
 simp only [Bool.and_eq_true,decide_eq_true_eq]
 omega
theorem oD (w : Wld) (p : Player) (hs : 1 ≤ w.size ∧ w.size ≤ 16) : Api Tryz.prog 66 [eK w,cN p] (bol (bB w.size p.x p.y)):=by
 have h:=Ft (x:=p.x) (y:=p.y) hs
 cases hW : bB w.size p.x p.y with
 | true =>
  obtain ⟨h1,h2,h3,h4⟩:=h.1 hW
  refine aF Tryz.func66 27 ?_
  conv=>whnf
  repeat' (first|exact trivial|((first|(refine ⟨fun hb=>?_,fun hb=>?_⟩<;>(try simp only [nrm] at hb)<;>try exact kZ hb)|refine kV ?_)<;>(conv=>whnf))|refine kY ?_ ?_)
  all_goals (refine congrArg Value.bool ?_;simp;omega)
 | false =>
  have h5 : ¬ (0 ≤ p.x ∧ 0 ≤ p.y ∧ p.x < 8 * w.size ∧ p.y < 8 * w.size):=fun hx=>by rw [h.2 hx] at hW;cases hW
  refine aF Tryz.func66 27 ?_
  conv=>whnf
  repeat' (first|exact trivial|((first|(refine ⟨fun hb=>?_,fun hb=>?_⟩<;>(try simp only [nrm] at hb)<;>try exact kZ hb)|refine kV ?_)<;>(conv=>whnf))|refine kY ?_ ?_)
  all_goals (refine congrArg Value.bool ?_;simp;omega)
theorem rL {w : Wld} {k : Nat} (h : pd w k) (hlt : k < w.chunks.length) (h1 : ar (elt .chunk w.chunks k) = true) (h2 : (elt .chunk w.chunks k).x < w.size) (h3 : (elt .chunk w.chunks k).y < w.size) (h4 : ∀ j,j + 1 = k → bi (elt .chunk w.chunks j) < bi (elt .chunk w.chunks k)) : pd w (k + 1):=by
 refine ⟨hlt,fun i hi=>?_,fun i hi=>?_⟩
 ·rcases Nat.lt_succ_iff_lt_or_eq.1 hi with h'|rfl
  ·exact h.right i h'
  ·exact ⟨h1,h2,h3⟩
 ·rcases Nat.lt_or_ge (i + 1) k with h'|h'
  ·exact h.up i h'
  ·have e : i + 1 = k:=by omega
   subst e
   exact h4 i rfl
theorem rM {w : Wld} {k : Nat} (h : pe w k) (hlt : k < w.players.length) (h1 : bN (elt .player w.players k) = true) (h2 : bB w.size (elt .player w.players k).x (elt .player w.players k).y = true) (h4 : ∀ j,j + 1 = k → (elt .player w.players j).id < (elt .player w.players k).id) : pe w (k + 1):=by
 refine ⟨hlt,fun i hi=>?_,fun i hi=>?_⟩
 ·rcases Nat.lt_succ_iff_lt_or_eq.1 hi with h'|rfl
  ·exact h.right i h'
  ·exact ⟨h1,h2⟩
 ·rcases Nat.lt_or_ge (i + 1) k with h'|h'
  ·exact h.up i h'
  ·have e : i + 1 = k:=by omega
   subst e
   exact h4 i rfl
theorem oE (w : Wld) (hw : OkW w) : Api Tryz.prog 20 [eK w] (bol (cd w)):=by
 have h1:=hw.nc
 have h2:=hw.np
 refine aF Tryz.func20 137 ?_
 conv=>whnf
 repeat' (first|exact trivial|((first|(refine ⟨fun hb=>?_,fun hb=>?_⟩<;>(try simp only [nrm] at hb)<;>try exact kZ hb)|refine kV ?_)<;>(conv=>whnf))|refine kY ?_ ?_)
 all_goals (try (rw [f_ (p:=True) (fun h=>by have:=h.size;have:=h.few;omega)];done))
 have hH : jc w = true:=by simp only [jc,Bool.and_eq_true,decide_eq_true_eq];omega
 refine aw.loopS aa (σ:=Nat) [1,3] (fun k=>[.ptr 2 0,i64 k]) (fun _=>[(2,.box (dw w))]) (fun k=>pd w k) (fun k=>w.chunks.length - k) 0 ⟨by omega,by omega,by omega⟩ ?_ ?_
 ·exact fD0
 ·intro k hs
  have hk:=hs.le
  by_cases hlt : k < w.chunks.length
  ·have hcr:=f9 _ (hw.chunks _ (ay (t:=.chunk) hlt))
   cases hB : ar (elt .chunk w.chunks k) with
   | false =>
    rw [f_ (p:=True) (fun h=>by have:=(h.chunkAt hlt).1;rw [hB] at this;cases this)]
    rw [hB] at hcr
    exact fD0
   | true =>
    rw [hB] at hcr
    have hp:=cX hB
    have q0 : (elt .chunk w.chunks (k : Int).toNat).x = (elt .chunk w.chunks k).x:=rfl
    have q1 : (elt .chunk w.chunks (k : Int).toNat).y = (elt .chunk w.chunks k).y:=rfl
    cases k with
    | zero =>
     conv=>whnf
     repeat' (first|exact trivial|((first|(refine ⟨fun hb=>?_,fun hb=>?_⟩<;>(try simp only [nrm] at hb)<;>try exact kZ hb)|refine kV ?_)<;>(conv=>whnf))|refine kY ?_ ?_)
     all_goals first
      | (rw [f_ (p:=True) (fun h=>by have:=h.chunkAt hlt;omega)];done)
      | (refine .to (0 + 1) (rL hs hlt hB (by omega) (by omega) (by omega)) (by omega) ?_;(conv=>whnf))
      | trace_state
     repeat' (first|exact trivial|((first|(refine ⟨fun hb=>?_,fun hb=>?_⟩<;>(try simp only [nrm] at hb)<;>try exact kZ hb)|refine kV ?_)<;>(conv=>whnf))|refine kY ?_ ?_)
    | succ j =>
     have hpj:=cX (hs.right j (by omega)).1
     have e : (((j + 1 : Nat) : Int) - 1).toNat = j:=by omega
     have q2 : (elt .chunk w.chunks (((j + 1 : Nat) : Int) - 1).toNat).x = (elt .chunk w.chunks j).x:=by rw [e]
     have q3 : (elt .chunk w.chunks (((j + 1 : Nat) : Int) - 1).toNat).y = (elt .chunk w.chunks j).y:=by rw [e]
     conv=>whnf
     repeat' (first|exact trivial|((first|(refine ⟨fun hb=>?_,fun hb=>?_⟩<;>(try simp only [nrm] at hb)<;>try exact kZ hb)|refine kV ?_)<;>(conv=>whnf))|refine kY ?_ ?_)
     all_goals first
      | (rw [f_ (p:=True) (fun h=>by have:=h.chunkAt hlt;omega)];done)
      | (rw [f_ (p:=True) (fun h=>by have:=h.chunkUp hlt;unfold bi at this;omega)];done)
      | (have hk2 : bi (elt .chunk w.chunks j) < bi (elt .chunk w.chunks (j + 1)):=(by unfold bi;omega);refine .to (j + 1 + 1) (rL hs hlt hB (by omega) (by omega) (fun i hi=>by rw [show i = j by omega];exact hk2)) (by omega) ?_;(conv=>whnf))
      | trace_state
     repeat' (first|exact trivial|((first|(refine ⟨fun hb=>?_,fun hb=>?_⟩<;>(try simp only [nrm] at hb)<;>try exact kZ hb)|refine kV ?_)<;>(conv=>whnf))|refine kY ?_ ?_)
  ·obtain rfl : k = w.chunks.length:=by omega
   conv=>whnf
   repeat' (first|exact trivial|((first|(refine ⟨fun hb=>?_,fun hb=>?_⟩<;>(try simp only [nrm] at hb)<;>try exact kZ hb)|refine kV ?_)<;>(conv=>whnf))|refine kY ?_ ?_)
   have hsC:=hs
   clear hs
   have hsz : 1 ≤ w.size ∧ w.size ≤ 16:=by omega
   refine aw.loopS aa (σ:=Nat) [1,5] (fun k=>[.ptr 2 0,i64 k]) (fun _=>[(2,.box (dw w))]) (fun k=>pe w k) (fun k=>w.players.length - k) 0 ⟨by omega,by omega,by omega⟩ ?_ ?_
   ·exact fD0
   ·intro k hs
    have hk:=hs.le
    by_cases hlt : k < w.players.length
    ·have hpr:=pG _ (hw.players _ (ay (t:=.player) hlt))
     have hth:=oD w (elt .player w.players k) hsz
     cases hB : bN (elt .player w.players k) with
     | false =>
      rw [f_ (p:=True) (fun h=>by have:=(h.playerAt hlt).1;rw [hB] at this;cases this)]
      rw [hB] at hpr
      exact fD0
     | true =>
      rw [hB] at hpr
      cases hI : bB w.size (elt .player w.players k).x (elt .player w.players k).y with
      | false =>
       rw [f_ (p:=True) (fun h=>by have:=(h.playerAt hlt).2;rw [hI] at this;cases this)]
       rw [hI] at hth
       exact fD0
      | true =>
       rw [hI] at hth
       have q0 : (elt .player w.players (k : Int).toNat).id = (elt .player w.players k).id:=rfl
       cases k with
       | zero =>
        conv=>whnf
        repeat' (first|exact trivial|((first|(refine ⟨fun hb=>?_,fun hb=>?_⟩<;>(try simp only [nrm] at hb)<;>try exact kZ hb)|refine kV ?_)<;>(conv=>whnf))|refine kY ?_ ?_)
        refine .to (0 + 1) (rM hs hlt hB hI (by omega)) (by omega) ?_
        exact fD0
       | succ j =>
        have e : (((j + 1 : Nat) : Int) - 1).toNat = j:=by omega
        have q2 : (elt .player w.players (((j + 1 : Nat) : Int) - 1).toNat).id = (elt .player w.players j).id:=by rw [e]
        conv=>whnf
        repeat' (first|exact trivial|((first|(refine ⟨fun hb=>?_,fun hb=>?_⟩<;>(try simp only [nrm] at hb)<;>try exact kZ hb)|refine kV ?_)<;>(conv=>whnf))|refine kY ?_ ?_)
        all_goals first
         | (rw [f_ (p:=True) (fun h=>by have:=h.playerUp hlt;omega)];done)
         | (refine .to (j + 1 + 1) (rM hs hlt hB hI (fun i hi=>by rw [show i = j by omega];omega)) (by omega) ?_;(conv=>whnf))
         | trace_state
        repeat' (first|exact trivial|((first|(refine ⟨fun hb=>?_,fun hb=>?_⟩<;>(try simp only [nrm] at hb)<;>try exact kZ hb)|refine kV ?_)<;>(conv=>whnf))|refine kY ?_ ?_)
    ·obtain rfl : k = w.players.length:=by omega
     rw [Al hH hsC hs]
     exact fD0
theorem tV (w : Wld) (id : Int) (hw : OkW w) : Api Tryz.prog 27 [eK w,i64 id] (.tup [cN (aJ w id).1,bol (aJ w id).2]):=by
 have hrt:=oE w hw
 have hcp:=nA w hw
 have hnp:=hw.np
 cases hR : cd w with
 | false =>
  rw [hR] at hrt
  have hs : aJ w id = (lB,false):=by unfold aJ;rw [if_pos hR]
  rw [hs]
  refine aF Tryz.func27 29 ?_
  exact fD0
 | true =>
  rw [hR] at hrt
  have hRW:=cL.1 hR
  have e : aJ w id = match aY pid w.players id with|some p=>(p,true)|none=>(lB,false):=by
   unfold aJ;rw [if_neg (by rw [hR];simp)];rfl
  rw [e]
  refine aF Tryz.func27 29 ?_
  conv=>whnf
  repeat' (first|exact trivial|((first|(refine ⟨fun hb=>?_,fun hb=>?_⟩<;>(try simp only [nrm] at hb)<;>try exact kZ hb)|refine kV ?_)<;>(conv=>whnf))|refine kY ?_ ?_)
  refine aw.loopS aa (σ:=Nat) [1,2,4,6] (fun i=>[i64 id,.ptr 4 0,.ptr 8 0,i64 i]) (fun _=>[(4,.box (dw w)),(8,.box [i64 0,i64 0,i64 0,F4,i64 0,F4,bol false])]) (fun i=>i ≤ w.players.length ∧ ∀ k < i,¬ (elt .player w.players k).id = id) (fun i=>w.players.length - i) 0 ⟨by omega,by omega⟩ ?_ ?_
  ·exact fD0
  ·rintro i ⟨hi,hno⟩
   by_cases hlt : i < w.players.length
   ·have hE : (elt .player w.players (i : Int).toNat).id = (elt .player w.players i).id:=rfl
    by_cases he : (elt .player w.players i).id = id
    ·have hg:=Fu hRW.rp hlt
     rw [he] at hg
     rw [hg]
     exact fD0
    ·conv=>whnf
     repeat' (first|exact trivial|((first|(refine ⟨fun hb=>?_,fun hb=>?_⟩<;>(try simp only [nrm] at hb)<;>try exact kZ hb)|refine kV ?_)<;>(conv=>whnf))|refine kY ?_ ?_)
     refine .to (i + 1) ⟨hlt,fun k hk=>?_⟩ (by omega) ?_
     ·rcases Nat.lt_succ_iff_lt_or_eq.1 hk with h|rfl
      ·exact hno k h
      ·exact he
     exact fD0
   ·obtain rfl : i = w.players.length:=by omega
    rw [Cp hno]
    exact fD0
end Go.Proofs.YtaecchphjploaaaGreat
