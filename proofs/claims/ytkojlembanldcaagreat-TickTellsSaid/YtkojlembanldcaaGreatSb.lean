/- The reference of worlds. -/
import Derived.Test.YtkojlembanldcaaGreatSa
import Derived.Test.YtkojlembanldcaaGreatRz
import Derived.Test.YtkojlembanldcaaGreatGi
set_option linter.unusedSimpArgs false
set_option linter.unusedVariables false
set_option maxRecDepth 100000
set_option maxHeartbeats 16000000
namespace Go.Proofs.YtkojlembanldcaaGreat
open Go Go.RowKit Eng
theorem r01varint (f : Nat) (hf9 : f ≤ 9) : ∀ (n : Nat),n < 128 ^ (f + 1) → n < 18446744073709551616 → Api Tryz.prog 289 [.lit (.int .u64 n)] (.vec .u8 (uintF f n)):=by
 induction f with
 | zero =>
  intro n hn hm
  have h1 : n < 128:=by simpa using hn
  have e : uintF 0 n = [(n : Int)]:=rfl
  rw [e]
  refine aF Tryz.func289 16 ?_
  exact fD0
 | succ f ih =>
  intro n hn hm
  have hq : n / 128 < 128 ^ (f + 1):=Nat.div_lt_of_lt_mul (by rw [Nat.pow_succ] at hn;omega)
  have hi : Api Tryz.prog 289 [.lit (.int .u64 ((n : Int) / 128))] (.vec .u8 (uintF f (n / 128))):=ih (by omega) (n / 128) hq (by omega)
  have hl:=uintF_len f (n / 128)
  have e : uintF (f + 1) n = if n < 128 then [(n : Int)] else ((n % 128 + 128 : Nat) : Int) :: uintF f (n / 128):=rfl
  rw [e]
  by_cases h : n < 128
  ·rw [if_pos h]
   refine aF Tryz.func289 16 ?_
   exact fD0
  ·rw [if_neg h]
   generalize uintF f (n / 128) = R at *
   refine aF Tryz.func289 16 ?_
   conv=>whnf
   repeat' (first|exact trivial|((first|(refine ⟨fun hb=>?_,fun hb=>?_⟩<;>(try simp only [nrm] at hb)<;>try exact kZ hb)|refine kV ?_)<;>(conv=>whnf))|refine kY ?_ ?_)
   all_goals first|(simp only [List.drop_zero];refine (List.take_of_length_le (by simp;omega)).trans ?_;exact congrArg (· :: R) (by omega))|rfl|(simp;done)|omega|trace_state
theorem beh_row (a b X Y : List (El .u8)) : List.take (a.length + b.length) (List.take a.length (a ++ X) ++ (b ++ Y)) = a ++ b:=by
 rw [List.take_left' rfl,← List.append_assoc,← List.length_append]
 exact List.take_left' rfl
theorem r01beh_ev (a b : List (El .u8)) (n : Nat) (hn : n = a.length) (hl : a.length + b.length ≤ 140737488355328) : Ev1 Tryz.prog 288 [.own .u8 1 0 n none,.vec .u8 b] [(1,.row .u8 a)] (.own .u8 390001 0 (n + b.length) none) [(390001,.row .u8 (a ++ b))]:=by
 subst hn
 refine eF Tryz.func288 16 ?_
 conv=>whnf
 repeat' (first|exact trivial|((first|(refine ⟨fun hb=>?_,fun hb=>?_⟩<;>(try simp only [nrm] at hb)<;>try exact kZ hb)|refine kV ?_)<;>(conv=>whnf))|refine kY ?_ ?_)
 all_goals first|rfl|(simp;done)|omega|(simp only [List.drop_zero,List.take_length,Int.toNat_zero,Nat.zero_add,Nat.add_zero,List.take_zero,List.nil_append];exact beh_row _ _ _ _)|trace_state
theorem r01beh_nil (b : List (El .u8)) (hl : b.length ≤ 140737488355328) : Ev1 Tryz.prog 288 [.lit (.slice none 0 0),.vec .u8 b] [] (.own .u8 390001 0 b.length none) [(390001,.row .u8 b)]:=by
 refine eF Tryz.func288 16 ?_
 exact fD0
theorem r01uint_ev (a : List (El .u8)) (n : Nat) (z : Int) (hn : n = a.length) (h0 : 0 ≤ z) (hz : z ≤ 18446744073709551615) (hl : a.length ≤ 100000000000000) : Ev1 Tryz.prog 286 [.own .u8 1 0 n none,.lit (.int .u64 z)] [(1,.row .u8 a)] (.own .u8 390001 0 (n + (uintL z.toNat).length) none) [(390001,.row .u8 (a ++ uintL z.toNat))]:=by
 have hv:=r01varint 9 (Nat.le_refl 9) z.toNat (by omega) (by omega)
 rw [Int.toNat_of_nonneg h0] at hv
 have hu:=uintF_len 9 z.toNat
 change Api _ _ _ (.vec .u8 (uintL z.toNat)) at hv
 change (uintL z.toNat).length ≤ 10 at hu
 generalize uintL z.toNat = B at *
 have hb:=r01beh_ev a B n hn (by omega)
 refine eF Tryz.func286 7 ?_
 conv=>whnf
 repeat' (first|exact trivial|((first|refine kL ?_|(refine ⟨fun hb=>?_,fun hb=>?_⟩<;>(try simp only [nrm] at hb)<;>try exact kZ hb)|refine kE hb [(1,1),(390001,350001)] rfl ?_|refine kF hb [(1,1),(390001,350001)] rfl ?_|refine kA hv ?_|refine kD hv ?_|refine kV ?_)<;>(conv=>whnf))|refine kY ?_ ?_)
 all_goals first|exact List.take_of_length_le (by rw [List.length_append];omega)|rfl|(simp;done)|omega|trace_state
theorem r01uint_nil (z : Int) (h0 : 0 ≤ z) (hz : z ≤ 18446744073709551615) : Ev1 Tryz.prog 286 [.lit (.slice none 0 0),.lit (.int .u64 z)] [] (.own .u8 390001 0 (uintL z.toNat).length none) [(390001,.row .u8 (uintL z.toNat))]:=by
 have hv:=r01varint 9 (Nat.le_refl 9) z.toNat (by omega) (by omega)
 rw [Int.toNat_of_nonneg h0] at hv
 have hu:=uintF_len 9 z.toNat
 change Api _ _ _ (.vec .u8 (uintL z.toNat)) at hv
 change (uintL z.toNat).length ≤ 10 at hu
 generalize uintL z.toNat = B at *
 have hb:=r01beh_nil B (by omega)
 refine eF Tryz.func286 7 ?_
 conv=>whnf
 repeat' (first|exact trivial|((first|refine kL ?_|(refine ⟨fun hb=>?_,fun hb=>?_⟩<;>(try simp only [nrm] at hb)<;>try exact kZ hb)|refine kE hb [(390001,350001)] rfl ?_|refine kF hb [(390001,350001)] rfl ?_|refine kA hv ?_|refine kD hv ?_|refine kV ?_)<;>(conv=>whnf))|refine kY ?_ ?_)
 all_goals first|exact List.take_of_length_le (by rw [List.length_append];omega)|rfl|(simp;done)|omega|trace_state
open Go Go.RowKit Eng
abbrev zeroW13 : List AV:=[i64 0,.lit (.int .u64 0),i64 0,.lit (.slice none 0 0),.lit (.slice none 0 0)]
theorem r13copied_api (w : Wld) (hw : OkW w) : Api Tryz.prog 37 [wldV w] (wldV w):=by
 have h1:=hw.nc
 have h2:=hw.np
 refine aF Tryz.func37 60 ?_
 ((try with_reducible refine evCut fun N hN hE hT=>?_);(conv=>whnf))
 repeat' (first|exact trivial|((first|((first|apply hT|apply hE|apply hN);clear hN hE hT)|(refine ⟨fun hb=>?_,fun hb=>?_⟩<;>(try simp only [nrm] at hb)<;>try exact kZ hb)|refine kV ?_)<;>((try with_reducible refine evCut fun N hN hE hT=>?_);(conv=>whnf)))|refine kY ?_ ?_)
 refine Runs.loopS cfg_ok (σ:=Nat) [1,2,3,4] (fun k=>[.ptr 2 0,.ptr 4 0,.ptr 6 0,i64 k]) (fun k=>[(2,.box (wldC w)),(4,.box zeroW13),(6,.box [i64 w.size,.lit (.int .u64 w.seed),i64 w.tick,.own .chunk 150101 0 k none,.lit (.slice none 0 0)]),(150101,.row .chunk (w.chunks.take k))]) (fun k=>k ≤ w.chunks.length) (fun k=>w.chunks.length - k) 0 (by omega) ?_ ?_
 ·exact fB0
 ·intro k hk
  by_cases hlt : k < w.chunks.length
  ·have hf:=hw.fit _ (elt_mem (t:=.chunk) hlt)
   have hcp:=r11copied_ev (elt .chunk w.chunks k) hf
   have hnx:=take_next (tt:=.chunk) hlt
   conv=>whnf
   repeat' (first|exact trivial|((first|((first|apply hT|apply hE|apply hN);clear hN hE hT)|refine kL ?_|(refine ⟨fun hb=>?_,fun hb=>?_⟩<;>(try simp only [nrm] at hb)<;>try exact kZ hb)|refine kE hcp [(390001,150001),(390003,150003),(390005,150005)] rfl ?_|refine kF hcp [(390001,150001),(390003,150003),(390005,150005)] rfl ?_|refine kV ?_)<;>((try with_reducible refine evCut fun N hN hE hT=>?_);(conv=>whnf)))|refine kY ?_ ?_)
   refine .to (k + 1) hlt (by omega) ?_
   conv=>whnf
   repeat' (first|exact trivial|((first|((first|apply hT|apply hE|apply hN);clear hN hE hT)|(refine ⟨fun hb=>?_,fun hb=>?_⟩<;>(try simp only [nrm] at hb)<;>try exact kZ hb)|refine kV ?_)<;>((try with_reducible refine evCut fun N hN hE hT=>?_);(conv=>whnf)))|refine kY ?_ ?_)
   all_goals first|rfl|(simp;done)|(simp;exact app1 hnx hlt (takekk _ _) rfl rfl)|trace_state
  ·obtain rfl : k = w.chunks.length:=by omega
   rw [List.take_length]
   conv=>whnf
   repeat' (first|exact trivial|((first|((first|apply hT|apply hE|apply hN);clear hN hE hT)|(refine ⟨fun hb=>?_,fun hb=>?_⟩<;>(try simp only [nrm] at hb)<;>try exact kZ hb)|refine kV ?_)<;>((try with_reducible refine evCut fun N hN hE hT=>?_);(conv=>whnf)))|refine kY ?_ ?_)
   refine Runs.loopS cfg_ok (σ:=Nat) [1,2,3,5] (fun k=>[.ptr 2 0,.ptr 4 0,.ptr 6 0,i64 k]) (fun k=>[(2,.box (wldC w)),(4,.box zeroW13),(6,.box [i64 w.size,.lit (.int .u64 w.seed),i64 w.tick,.own .chunk 150101 0 w.chunks.length none,.own .player 150103 0 k none]),(150101,.row .chunk w.chunks),(150103,.row .player (w.players.take k))]) (fun k=>k ≤ w.players.length) (fun k=>w.players.length - k) 0 (by omega) ?_ ?_
   ·exact fB0
   ·intro k hk
    by_cases hlt : k < w.players.length
    ·have hf:=hw.players _ (elt_mem (t:=.player) hlt)
     have n1:=hf.nb
     have n2:=hf.no
     have hnx:=take_next (tt:=.player) hlt
     conv=>whnf
     repeat' (first|exact trivial|((first|((first|apply hT|apply hE|apply hN);clear hN hE hT)|(refine ⟨fun hb=>?_,fun hb=>?_⟩<;>(try simp only [nrm] at hb)<;>try exact kZ hb)|refine kV ?_)<;>((try with_reducible refine evCut fun N hN hE hT=>?_);(conv=>whnf)))|refine kY ?_ ?_)
     refine .to (k + 1) hlt (by omega) ?_
     conv=>whnf
     repeat' (first|exact trivial|((first|((first|apply hT|apply hE|apply hN);clear hN hE hT)|(refine ⟨fun hb=>?_,fun hb=>?_⟩<;>(try simp only [nrm] at hb)<;>try exact kZ hb)|refine kV ?_)<;>((try with_reducible refine evCut fun N hN hE hT=>?_);(conv=>whnf)))|refine kY ?_ ?_)
     all_goals first|rfl|(simp;done)|(simp;exact app1 hnx hlt (takekk _ _) rfl rfl)|trace_state
    ·obtain rfl : k = w.players.length:=by omega
     rw [List.take_length]
     exact fB0
theorem withinS {s x y : Int} (hs : 1 ≤ s ∧ s ≤ 16) : withinW s x y = true ↔ 0 ≤ x ∧ 0 ≤ y ∧ x < 8 * s ∧ y < 8 * s:=by
 unfold withinW
 rw [wr8_eq (by omega) (by omega)]
 simp only [Bool.and_eq_true,decide_eq_true_eq]
 omega
theorem r13there_api (w : Wld) (p : Player) (hs : 1 ≤ w.size ∧ w.size ≤ 16) : Api Tryz.prog 154 [wldV w,playerV p] (bol (withinW w.size p.x p.y)):=by
 have h:=withinS (x:=p.x) (y:=p.y) hs
 cases hW : withinW w.size p.x p.y with
 | true =>
  obtain ⟨h1,h2,h3,h4⟩:=h.1 hW
  refine aF Tryz.func154 27 ?_
  conv=>whnf
  repeat' (first|exact trivial|((first|(refine ⟨fun hb=>?_,fun hb=>?_⟩<;>(try simp only [nrm] at hb)<;>try exact kZ hb)|refine kV ?_)<;>(conv=>whnf))|refine kY ?_ ?_)
  all_goals (refine congrArg Value.bool ?_;simp;omega)
 | false =>
  have h5 : ¬ (0 ≤ p.x ∧ 0 ≤ p.y ∧ p.x < 8 * w.size ∧ p.y < 8 * w.size):=fun hx=>by rw [h.2 hx] at hW;cases hW
  refine aF Tryz.func154 27 ?_
  conv=>whnf
  repeat' (first|exact trivial|((first|(refine ⟨fun hb=>?_,fun hb=>?_⟩<;>(try simp only [nrm] at hb)<;>try exact kZ hb)|refine kV ?_)<;>(conv=>whnf))|refine kY ?_ ?_)
  all_goals (refine congrArg Value.bool ?_;simp;omega)
theorem seenC_next {w : Wld} {k : Nat} (h : SeenC w k) (hlt : k < w.chunks.length) (h1 : rightB (elt .chunk w.chunks k) = true) (h2 : (elt .chunk w.chunks k).x < w.size) (h3 : (elt .chunk w.chunks k).y < w.size) (h4 : ∀ j,j + 1 = k → keyC (elt .chunk w.chunks j) < keyC (elt .chunk w.chunks k)) : SeenC w (k + 1):=by
 refine ⟨hlt,fun i hi=>?_,fun i hi=>?_⟩
 ·rcases Nat.lt_succ_iff_lt_or_eq.1 hi with h'|rfl
  ·exact h.right i h'
  ·exact ⟨h1,h2,h3⟩
 ·rcases Nat.lt_or_ge (i + 1) k with h'|h'
  ·exact h.up i h'
  ·have e : i + 1 = k:=by omega
   subst e
   exact h4 i rfl
theorem seenP_next {w : Wld} {k : Nat} (h : SeenP w k) (hlt : k < w.players.length) (h1 : soundB (elt .player w.players k) = true) (h2 : withinW w.size (elt .player w.players k).x (elt .player w.players k).y = true) (h4 : ∀ j,j + 1 = k → (elt .player w.players j).id < (elt .player w.players k).id) : SeenP w (k + 1):=by
 refine ⟨hlt,fun i hi=>?_,fun i hi=>?_⟩
 ·rcases Nat.lt_succ_iff_lt_or_eq.1 hi with h'|rfl
  ·exact h.right i h'
  ·exact ⟨h1,h2⟩
 ·rcases Nat.lt_or_ge (i + 1) k with h'|h'
  ·exact h.up i h'
  ·have e : i + 1 = k:=by omega
   subst e
   exact h4 i rfl
theorem r13right_api (w : Wld) (hw : OkW w) : Api Tryz.prog 80 [wldV w] (bol (rightW w)):=by
 have h1:=hw.nc
 have h2:=hw.np
 refine aF Tryz.func80 137 ?_
 conv=>whnf
 repeat' (first|exact trivial|((first|(refine ⟨fun hb=>?_,fun hb=>?_⟩<;>(try simp only [nrm] at hb)<;>try exact kZ hb)|refine kV ?_)<;>(conv=>whnf))|refine kY ?_ ?_)
 all_goals (try (rw [wrong_of (p:=True) (fun h=>by have:=h.size;have:=h.few;omega)];done))
 have hH : headW w = true:=by simp only [headW,Bool.and_eq_true,decide_eq_true_eq];omega
 refine Runs.loopS cfg_ok (σ:=Nat) [1,3] (fun k=>[.ptr 2 0,i64 k]) (fun _=>[(2,.box (wldC w))]) (fun k=>SeenC w k) (fun k=>w.chunks.length - k) 0 ⟨by omega,by omega,by omega⟩ ?_ ?_
 ·exact fD0
 ·intro k hs
  have hk:=hs.le
  by_cases hlt : k < w.chunks.length
  ·have hcr:=r11right_api _ (hw.chunks _ (elt_mem (t:=.chunk) hlt))
   cases hB : rightB (elt .chunk w.chunks k) with
   | false =>
    rw [wrong_of (p:=True) (fun h=>by have:=(h.chunkAt hlt).1;rw [hB] at this;cases this)]
    rw [hB] at hcr
    exact fD0
   | true =>
    rw [hB] at hcr
    have hp:=rightB_pos hB
    have q0 : (elt .chunk w.chunks (k : Int).toNat).x = (elt .chunk w.chunks k).x:=rfl
    have q1 : (elt .chunk w.chunks (k : Int).toNat).y = (elt .chunk w.chunks k).y:=rfl
    cases k with
    | zero =>
     conv=>whnf
     repeat' (first|exact trivial|((first|(refine ⟨fun hb=>?_,fun hb=>?_⟩<;>(try simp only [nrm] at hb)<;>try exact kZ hb)|refine kV ?_)<;>(conv=>whnf))|refine kY ?_ ?_)
     all_goals first
      | (rw [wrong_of (p:=True) (fun h=>by have:=h.chunkAt hlt;omega)];done)
      | (refine .to (0 + 1) (seenC_next hs hlt hB (by omega) (by omega) (by omega)) (by omega) ?_;(conv=>whnf))
      | trace_state
     repeat' (first|exact trivial|((first|(refine ⟨fun hb=>?_,fun hb=>?_⟩<;>(try simp only [nrm] at hb)<;>try exact kZ hb)|refine kV ?_)<;>(conv=>whnf))|refine kY ?_ ?_)
    | succ j =>
     have hpj:=rightB_pos (hs.right j (by omega)).1
     have e : (((j + 1 : Nat) : Int) - 1).toNat = j:=by omega
     have q2 : (elt .chunk w.chunks (((j + 1 : Nat) : Int) - 1).toNat).x = (elt .chunk w.chunks j).x:=by rw [e]
     have q3 : (elt .chunk w.chunks (((j + 1 : Nat) : Int) - 1).toNat).y = (elt .chunk w.chunks j).y:=by rw [e]
     conv=>whnf
     repeat' (first|exact trivial|((first|(refine ⟨fun hb=>?_,fun hb=>?_⟩<;>(try simp only [nrm] at hb)<;>try exact kZ hb)|refine kV ?_)<;>(conv=>whnf))|refine kY ?_ ?_)
     all_goals first
      | (rw [wrong_of (p:=True) (fun h=>by have:=h.chunkAt hlt;omega)];done)
      | (rw [wrong_of (p:=True) (fun h=>by have:=h.chunkUp hlt;unfold keyC at this;omega)];done)
      | (have hk2 : keyC (elt .chunk w.chunks j) < keyC (elt .chunk w.chunks (j + 1)):=(by unfold keyC;omega);refine .to (j + 1 + 1) (seenC_next hs hlt hB (by omega) (by omega) (fun i hi=>by rw [show i = j by omega];exact hk2)) (by omega) ?_;(conv=>whnf))
      | trace_state
     repeat' (first|exact trivial|((first|(refine ⟨fun hb=>?_,fun hb=>?_⟩<;>(try simp only [nrm] at hb)<;>try exact kZ hb)|refine kV ?_)<;>(conv=>whnf))|refine kY ?_ ?_)
  ·obtain rfl : k = w.chunks.length:=by omega
   conv=>whnf
   repeat' (first|exact trivial|((first|(refine ⟨fun hb=>?_,fun hb=>?_⟩<;>(try simp only [nrm] at hb)<;>try exact kZ hb)|refine kV ?_)<;>(conv=>whnf))|refine kY ?_ ?_)
   have hsC:=hs
   clear hs
   have hsz : 1 ≤ w.size ∧ w.size ≤ 16:=by omega
   refine Runs.loopS cfg_ok (σ:=Nat) [1,5] (fun k=>[.ptr 2 0,i64 k]) (fun _=>[(2,.box (wldC w))]) (fun k=>SeenP w k) (fun k=>w.players.length - k) 0 ⟨by omega,by omega,by omega⟩ ?_ ?_
   ·exact fD0
   ·intro k hs
    have hk:=hs.le
    by_cases hlt : k < w.players.length
    ·have hpr:=rplayer_api _ (hw.players _ (elt_mem (t:=.player) hlt))
     have hth:=r13there_api w (elt .player w.players k) hsz
     cases hB : soundB (elt .player w.players k) with
     | false =>
      rw [wrong_of (p:=True) (fun h=>by have:=(h.playerAt hlt).1;rw [hB] at this;cases this)]
      rw [hB] at hpr
      exact fD0
     | true =>
      rw [hB] at hpr
      cases hI : withinW w.size (elt .player w.players k).x (elt .player w.players k).y with
      | false =>
       rw [wrong_of (p:=True) (fun h=>by have:=(h.playerAt hlt).2;rw [hI] at this;cases this)]
       rw [hI] at hth
       exact fD0
      | true =>
       rw [hI] at hth
       have q0 : (elt .player w.players (k : Int).toNat).id = (elt .player w.players k).id:=rfl
       cases k with
       | zero =>
        conv=>whnf
        repeat' (first|exact trivial|((first|(refine ⟨fun hb=>?_,fun hb=>?_⟩<;>(try simp only [nrm] at hb)<;>try exact kZ hb)|refine kV ?_)<;>(conv=>whnf))|refine kY ?_ ?_)
        refine .to (0 + 1) (seenP_next hs hlt hB hI (by omega)) (by omega) ?_
        exact fD0
       | succ j =>
        have e : (((j + 1 : Nat) : Int) - 1).toNat = j:=by omega
        have q2 : (elt .player w.players (((j + 1 : Nat) : Int) - 1).toNat).id = (elt .player w.players j).id:=by rw [e]
        conv=>whnf
        repeat' (first|exact trivial|((first|(refine ⟨fun hb=>?_,fun hb=>?_⟩<;>(try simp only [nrm] at hb)<;>try exact kZ hb)|refine kV ?_)<;>(conv=>whnf))|refine kY ?_ ?_)
        all_goals first
         | (rw [wrong_of (p:=True) (fun h=>by have:=h.playerUp hlt;omega)];done)
         | (refine .to (j + 1 + 1) (seenP_next hs hlt hB hI (fun i hi=>by rw [show i = j by omega];omega)) (by omega) ?_;(conv=>whnf))
         | trace_state
        repeat' (first|exact trivial|((first|(refine ⟨fun hb=>?_,fun hb=>?_⟩<;>(try simp only [nrm] at hb)<;>try exact kZ hb)|refine kV ?_)<;>(conv=>whnf))|refine kY ?_ ?_)
    ·obtain rfl : k = w.players.length:=by omega
     rw [right_seen hH hsC hs]
     exact fD0
theorem r13player_api (w : Wld) (id : Int) (hw : OkW w) : Api Tryz.prog 82 [wldV w,i64 id] (.tup [playerV (playerW w id).1,bol (playerW w id).2]):=by
 have hrt:=r13right_api w hw
 have hcp:=r13copied_api w hw
 have hnp:=hw.np
 cases hR : rightW w with
 | false =>
  rw [hR] at hrt
  have hs : playerW w id = (zeroP,false):=by unfold playerW;rw [if_pos hR]
  rw [hs]
  refine aF Tryz.func82 29 ?_
  exact fD0
 | true =>
  rw [hR] at hrt
  have hRW:=rightW_iff.1 hR
  have e : playerW w id = match getK pid w.players id with|some p=>(p,true)|none=>(zeroP,false):=by
   unfold playerW;rw [if_neg (by rw [hR];simp)];rfl
  rw [e]
  refine aF Tryz.func82 29 ?_
  conv=>whnf
  repeat' (first|exact trivial|((first|(refine ⟨fun hb=>?_,fun hb=>?_⟩<;>(try simp only [nrm] at hb)<;>try exact kZ hb)|refine kV ?_)<;>(conv=>whnf))|refine kY ?_ ?_)
  refine Runs.loopS cfg_ok (σ:=Nat) [1,2,4,6] (fun i=>[i64 id,.ptr 4 0,.ptr 8 0,i64 i]) (fun _=>[(4,.box (wldC w)),(8,.box [i64 0,i64 0,i64 0,nilS,i64 0,nilS,bol false])]) (fun i=>i ≤ w.players.length ∧ ∀ k < i,¬ (elt .player w.players k).id = id) (fun i=>w.players.length - i) 0 ⟨by omega,by omega⟩ ?_ ?_
  ·exact fD0
  ·rintro i ⟨hi,hno⟩
   by_cases hlt : i < w.players.length
   ·have hE : (elt .player w.players (i : Int).toNat).id = (elt .player w.players i).id:=rfl
    by_cases he : (elt .player w.players i).id = id
    ·have hg:=getP_at hRW.rp hlt
     rw [he] at hg
     rw [hg]
     exact fD0
    ·conv=>whnf
     repeat' (first|exact trivial|((first|(refine ⟨fun hb=>?_,fun hb=>?_⟩<;>(try simp only [nrm] at hb)<;>try exact kZ hb)|refine kV ?_)<;>(conv=>whnf))|refine kY ?_ ?_)
     refine .to (i + 1) ⟨hlt,fun k hk=>?_⟩ (by omega) ?_
     ·rcases Nat.lt_succ_iff_lt_or_eq.1 hk with h|rfl
      ·exact hno k h
      ·exact he
     exact fD0
   ·obtain rfl : i = w.players.length:=by omega
    rw [getP_none hno]
    exact fD0
theorem r13chunk_api (w : Wld) (x y : Int) (hw : OkW w) : Api Tryz.prog 170 [wldV w,i64 x,i64 y] (.tup [chunkV (chunkW w x y).1,bol (chunkW w x y).2]):=by
 have hrt:=r13right_api w hw
 have hnc:=hw.nc
 cases hR : rightW w with
 | false =>
  rw [hR] at hrt
  rw [chunkW_out (.inl hR)]
  refine aF Tryz.func170 66 ?_
  exact fD0
 | true =>
  rw [hR] at hrt
  by_cases hin : 0 ≤ x ∧ x < w.size ∧ 0 ≤ y ∧ y < w.size
  ·have hRW:=rightW_iff.1 hR
   have hs:=hRW.size
   rw [chunkW_get hRW hin.1 hin.2.1 hin.2.2.1 hin.2.2.2]
   have hgn:=r12chunk_api w.seed x y hin.1 (by omega) hin.2.2.1 (by omega)
   refine aF Tryz.func170 66 ?_
   conv=>whnf
   repeat' (first|exact trivial|((first|(refine ⟨fun hb=>?_,fun hb=>?_⟩<;>(try simp only [nrm] at hb)<;>try exact kZ hb)|refine kV ?_)<;>(conv=>whnf))|refine kY ?_ ?_)
   refine Runs.loopS cfg_ok (σ:=Nat) [1,2,3,6,8] (fun i=>[i64 x,i64 y,.ptr 6 0,.ptr 12 0,i64 i]) (fun _=>[(6,.box (wldC w)),(12,.box (chunkC ⟨0,0,[],[],[]⟩))]) (fun i=>i ≤ w.chunks.length ∧ ∀ k < i,¬ ((elt .chunk w.chunks k).x = x ∧ (elt .chunk w.chunks k).y = y)) (fun i=>w.chunks.length - i) 0 ⟨by omega,by omega⟩ ?_ ?_
   ·exact fD0
   ·rintro i ⟨hi,hno⟩
    by_cases hlt : i < w.chunks.length
    ·have q0 : (elt .chunk w.chunks (i : Int).toNat).x = (elt .chunk w.chunks i).x:=rfl
     have q1 : (elt .chunk w.chunks (i : Int).toNat).y = (elt .chunk w.chunks i).y:=rfl
     by_cases he : (elt .chunk w.chunks i).x = x ∧ (elt .chunk w.chunks i).y = y
     ·have hg:=getC_at hRW.rc hRW.xy hlt
      rw [he.1,he.2] at hg
      rw [hg]
      obtain ⟨he1,he2⟩:=he
      have hcp:=r11copied_ev (elt .chunk w.chunks i) (hw.fit _ (elt_mem (t:=.chunk) hlt))
      conv=>whnf
      repeat' (first|exact trivial|((first|refine kL ?_|(refine ⟨fun hb=>?_,fun hb=>?_⟩<;>(try simp only [nrm] at hb)<;>try exact kZ hb)|refine kE hcp [(390001,150001),(390003,150003),(390005,150005)] rfl ?_|refine kF hcp [(390001,150001),(390003,150003),(390005,150005)] rfl ?_|refine kV ?_)<;>(conv=>whnf))|refine kY ?_ ?_)
      all_goals first|rfl|(simp;done)|omega|trace_state
     ·have he1 : (elt .chunk w.chunks i).x = x → ¬ (elt .chunk w.chunks i).y = y:=fun h1 h2=>he ⟨h1,h2⟩
      conv=>whnf
      repeat' (first|exact trivial|((first|(refine ⟨fun hb=>?_,fun hb=>?_⟩<;>(try simp only [nrm] at hb)<;>try exact kZ hb)|refine kV ?_)<;>(conv=>whnf))|refine kY ?_ ?_)
      all_goals
       refine .to (i + 1) ⟨hlt,fun k hk=>?_⟩ (by omega) ?_
       ·rcases Nat.lt_succ_iff_lt_or_eq.1 hk with h|rfl
        ·exact hno k h
        ·exact he
       exact fD0
    ·obtain rfl : i = w.chunks.length:=by omega
     rw [getC_none hRW.xy hin.1 (by omega) hno]
     exact fD0
  ·rw [chunkW_out (.inr hin)]
   refine aF Tryz.func170 66 ?_
   exact fD0
open Go Go.RowKit Eng
theorem atW_ref (w : Wld) (x y : Int) : atW w x y = if x < 0 ∨ y < 0 then (0,false) else if (chunkW w (x / 8) (y / 8)).2 = false then (0,false) else (elt .u8 (chunkW w (x / 8) (y / 8)).1.cells (y % 8 * 8 + x % 8).toNat,true):=by
 cases hR : rightW w with
 | false =>
  have e:=chunkW_out (x:=x / 8) (y:=y / 8) (.inl hR)
  have l : atW w x y = (0,false):=by
   unfold atW
   rw [e]
   split
   ·rfl
   ·rw [if_pos rfl]
  rw [l,e]
  split
  ·rfl
  ·rw [if_pos rfl]
 | true =>
  have hRW:=rightW_iff.1 hR
  by_cases h : 0 ≤ x ∧ 0 ≤ y ∧ x < 8 * w.size ∧ y < 8 * w.size
  ·rw [atW_in hRW h,if_neg (by omega),chunkW_get hRW (by omega) (by omega) (by omega) (by omega),if_neg (by simp)]
  ·rw [atW_out hRW h]
   by_cases h2 : x < 0 ∨ y < 0
   ·rw [if_pos h2]
   ·rw [if_neg h2,chunkW_out (.inr (by omega)),if_pos rfl]
theorem r13at_api (w : Wld) (x y : Int) (hw : OkW w) (hx1 : x ≤ 9223372036854775807) (hy1 : y ≤ 9223372036854775807) : Api Tryz.prog 87 [wldV w,i64 x,i64 y] (.tup [.lit (.int .u8 (atW w x y).1),bol (atW w x y).2]):=by
 have hch:=r13chunk_api w (x / 8) (y / 8) hw
 rw [atW_ref]
 by_cases h : x < 0 ∨ y < 0
 ·rw [if_pos h]
  refine aF Tryz.func87 34 ?_
  exact fA0
 ·rw [if_neg h]
  cases hC : (chunkW w (x / 8) (y / 8)).2 with
  | false =>
   rw [hC] at hch
   rw [if_pos rfl]
   generalize (chunkW w (x / 8) (y / 8)).1 = K at *
   refine aF Tryz.func87 34 ?_
   exact fA0
  | true =>
   rw [hC] at hch
   have hl:=chunkW_len hC
   rw [if_neg (by simp)]
   generalize (chunkW w (x / 8) (y / 8)).1 = K at *
   refine aF Tryz.func87 34 ?_
   exact fA0
theorem u1_slot {s : Slot} (h : okSlot s) (h2 : badSlot s = false) : 0 ≤ s.item ∧ s.item ≤ 255 ∧ 0 ≤ s.n ∧ s.n ≤ 16:=by
 have:=okN_slot h2;exact ⟨h.1,h.2,this.1,this.2⟩
theorem putY2 (a b : Int) : putY [a,b] = uintL a.toNat ++ uintL b.toNat:=by unfold putY;simp
theorem putY3 (a b c : Int) : putY [a,b,c] = uintL a.toNat ++ (uintL b.toNat ++ uintL c.toNat):=by unfold putY;simp
theorem putY1 (a : Int) : putY [a] = uintL a.toNat:=by unfold putY;simp
theorem uintL_len (z : Nat) : (uintL z).length ≤ 10:=uintF_len 9 z
theorem r11bytes_api (c : Chunk) (hc : OkC c) (hR : rightB c = true) : Api Tryz.prog 280 [chunkV c] (.tup [.vec .u8 (bytesC c),i64 0]):=by
 have hrt:=r11right_api c hc
 rw [hR] at hrt
 have hRC:=rightC_of hR
 have hlen:=hRC.len
 have hH:=hRC.head
 simp only [headB,Bool.and_eq_true,decide_eq_true_eq] at hH
 obtain ⟨hx0,hy0,hx1,hy1,-,hh32⟩:=hH
 obtain ⟨hbl,hbx⟩:=rightGo_boxes _ _ _ hRC.go
 have lx:=uintL_len c.x.toNat
 have ly:=uintL_len c.y.toNat
 have e1:=r01uint_nil c.x hx0 (by omega)
 have e2:=r01uint_ev (uintL c.x.toNat) _ c.y rfl hy0 (by omega) (by omega)
 have hB : bytesC c = uintL c.x.toNat ++ uintL c.y.toNat ++ c.cells ++ uintL (c.heaps.length : Int).toNat ++ c.heaps.flatMap heapL ++ c.boxes.flatMap boxL:=by
  unfold bytesC;rw [putY2,putY1]
 rw [← List.length_append] at e2
 have lP : (uintL c.x.toNat ++ uintL c.y.toNat).length ≤ 20:=by rw [List.length_append];omega
 rw [hB]
 generalize hX : uintL c.x.toNat = X at *
 generalize hP : X ++ uintL c.y.toNat = P at *
 refine aF Tryz.func280 112 ?_
 conv=>whnf
 repeat' (first|exact trivial|((first|refine kL ?_|(refine ⟨fun hb=>?_,fun hb=>?_⟩<;>(try simp only [nrm] at hb)<;>try exact kZ hb)|refine kE e1 [(390001,150101)] rfl ?_|refine kF e1 [(390001,150101)] rfl ?_|refine kE e2 [(1,150101),(390001,150103)] rfl ?_|refine kF e2 [(1,150101),(390001,150103)] rfl ?_|refine kV ?_)<;>(conv=>whnf))|refine kY ?_ ?_)
 refine Runs.loopS cfg_ok (σ:=Nat) [1,4,5] (fun k=>[.ptr 2 0,.own .u8 150103 0 (P.length + k) none,i64 k]) (fun k=>[(2,.box (chunkC c)),(150103,.row .u8 (P ++ c.cells.take k))]) (fun k=>k ≤ 64) (fun k=>64 - k) 0 (by omega) ?_ ?_
 ·exact fD0
 ·intro k hk
  by_cases hlt : k < 64
  ·have hn:=app_next P c.cells k (by omega)
   conv=>whnf
   repeat' (first|exact trivial|((first|(refine ⟨fun hb=>?_,fun hb=>?_⟩<;>(try simp only [nrm] at hb)<;>try exact kZ hb)|refine kV ?_)<;>(conv=>whnf))|refine kY ?_ ?_)
   refine .to (k + 1) hlt (by omega) ?_
   exact fD0
  ·obtain rfl : k = 64:=by omega
   have hcl : c.cells.take 64 = c.cells:=List.take_of_length_le (by omega)
   rw [hcl]
   have lQ : (P ++ c.cells).length ≤ 84:=by rw [List.length_append];omega
   have lQ2 : P.length + 64 = (P ++ c.cells).length:=by rw [List.length_append];omega
   rw [lQ2]
   have lh:=uintL_len (c.heaps.length : Int).toNat
   have e3:=r01uint_ev (P ++ c.cells) _ (c.heaps.length : Int) rfl (by omega) (by omega) (by omega)
   rw [← List.length_append] at e3
   have lS : (P ++ c.cells ++ uintL (c.heaps.length : Int).toNat).length ≤ 94:=by rw [List.length_append];omega
   generalize P ++ c.cells ++ uintL (c.heaps.length : Int).toNat = S at *
   generalize P ++ c.cells = Q at *
   conv=>whnf
   repeat' (first|exact trivial|((first|refine kL ?_|(refine ⟨fun hb=>?_,fun hb=>?_⟩<;>(try simp only [nrm] at hb)<;>try exact kZ hb)|refine kE e3 [(1,150103),(390001,150101)] rfl ?_|refine kF e3 [(1,150103),(390001,150101)] rfl ?_|refine kV ?_)<;>(conv=>whnf))|refine kY ?_ ?_)
   refine Runs.loopS cfg_ok (σ:=Nat × List Int) [1,4,6] (fun (k,T)=>[.ptr 2 0,.own .u8 150101 0 T.length none,i64 k]) (fun (_,T)=>[(2,.box (chunkC c)),(150101,.row .u8 T)]) (fun (k,T)=>k ≤ c.heaps.length ∧ T = S ++ (c.heaps.take k).flatMap heapL ∧ T.length ≤ 94 + k * 30) (fun (k,_)=>c.heaps.length - k) (0,S) ⟨by omega,by simp,by omega⟩ ?_ ?_
   ·exact fD0
   ·rintro ⟨k,T⟩ ⟨hk,hT,hTl⟩
    try dsimp only at hk hT hTl
    by_cases hlt : k < c.heaps.length
    ·obtain ⟨ha1,ha2,ha3,ha4⟩:=okN_heap (any_false hRC.heaps (elt_mem (t:=.heap) hlt))
     obtain ⟨hb1,hb2⟩ : 0 ≤ (elt .heap c.heaps k).slot.item ∧ (elt .heap c.heaps k).slot.item ≤ 255:=hc.heaps _ (elt_mem (t:=.heap) hlt)
     have l1:=uintL_len (elt .heap c.heaps k).cell.toNat
     have l2:=uintL_len (elt .heap c.heaps k).slot.item.toNat
     have l3:=uintL_len (elt .heap c.heaps k).slot.n.toNat
     have q0 : (elt .heap c.heaps (k : Int).toNat).cell = (elt .heap c.heaps k).cell:=rfl
     have q1 : (elt .heap c.heaps (k : Int).toNat).slot.item = (elt .heap c.heaps k).slot.item:=rfl
     have q2 : (elt .heap c.heaps (k : Int).toNat).slot.n = (elt .heap c.heaps k).slot.n:=rfl
     have u1:=r01uint_ev T _ (elt .heap c.heaps k).cell rfl ha1 (by omega) (by omega)
     have u2:=r01uint_ev (T ++ uintL (elt .heap c.heaps k).cell.toNat) _ (elt .heap c.heaps k).slot.item (by rw [List.length_append]) hb1 (by omega) (by rw [List.length_append];omega)
     have u3:=r01uint_ev (T ++ uintL (elt .heap c.heaps k).cell.toNat ++ uintL (elt .heap c.heaps k).slot.item.toNat) _ (elt .heap c.heaps k).slot.n (by rw [List.length_append,List.length_append]) (by omega) (by omega) (by rw [List.length_append,List.length_append];omega)
     have hT2 : T ++ uintL (elt .heap c.heaps k).cell.toNat ++ uintL (elt .heap c.heaps k).slot.item.toNat ++ uintL (elt .heap c.heaps k).slot.n.toNat = S ++ (c.heaps.take (k + 1)).flatMap heapL:=by
      rw [flatMap_take (t:=.heap) heapL hlt,hT]
      unfold heapL
      rw [putY3]
      simp only [List.append_assoc]
     have hT3 : (T ++ uintL (elt .heap c.heaps k).cell.toNat ++ uintL (elt .heap c.heaps k).slot.item.toNat ++ uintL (elt .heap c.heaps k).slot.n.toNat).length ≤ 94 + (k + 1) * 30:=by
      simp only [List.length_append];omega
     conv=>whnf
     repeat' (first|exact trivial|((first|refine kL ?_|(refine ⟨fun hb=>?_,fun hb=>?_⟩<;>(try simp only [nrm] at hb)<;>try exact kZ hb)|refine kE u1 [(1,150101),(390001,150103)] rfl ?_|refine kF u1 [(1,150101),(390001,150103)] rfl ?_|refine kE u2 [(1,150103),(390001,150105)] rfl ?_|refine kF u2 [(1,150103),(390001,150105)] rfl ?_|refine kE u3 [(1,150105),(390001,150101)] rfl ?_|refine kF u3 [(1,150105),(390001,150101)] rfl ?_|refine kV ?_)<;>(conv=>whnf))|refine kY ?_ ?_)
     refine .to (k + 1,_) ⟨hlt,hT2,hT3⟩ (by first|omega|(dsimp only;omega)) ?_
     conv=>whnf
     repeat' (first|exact trivial|((first|(refine ⟨fun hb=>?_,fun hb=>?_⟩<;>(try simp only [nrm] at hb)<;>try exact kZ hb)|refine kV ?_)<;>(conv=>whnf))|refine kY ?_ ?_)
     all_goals first|rfl|(simp only [List.length_append];done)|(simp only [List.length_append,List.take_length];done)|(refine List.take_of_length_le ?_;simp only [List.length_append];omega)|trace_state
    ·obtain rfl : k = c.heaps.length:=by omega
     rw [List.take_length] at hT
     rw [← hT]
     conv=>whnf
     repeat' (first|exact trivial|((first|(refine ⟨fun hb=>?_,fun hb=>?_⟩<;>(try simp only [nrm] at hb)<;>try exact kZ hb)|refine kV ?_)<;>(conv=>whnf))|refine kY ?_ ?_)
     refine Runs.loopS cfg_ok (σ:=Nat × List Int) [1,4,7] (fun (k,U)=>[.ptr 2 0,.own .u8 150101 0 U.length none,i64 k]) (fun (_,U)=>[(2,.box (chunkC c)),(150101,.row .u8 U)]) (fun (k,U)=>k ≤ c.boxes.length ∧ U = T ++ (c.boxes.take k).flatMap boxL ∧ U.length ≤ 1060 + k * 120) (fun (k,_)=>c.boxes.length - k) (0,T) ⟨by omega,by simp,by omega⟩ ?_ ?_
     ·exact fD0
     ·rintro ⟨k,U⟩ ⟨hk,hU,hUl⟩
      try dsimp only at hk hU hUl
      by_cases hlt : k < c.boxes.length
      ·obtain ⟨hb6,hbo⟩:=hbx _ (elt_mem (t:=.box) hlt)
       have hok:=hc.boxes _ (elt_mem (t:=.box) hlt)
       conv=>whnf
       repeat' (first|exact trivial|((first|(refine ⟨fun hb=>?_,fun hb=>?_⟩<;>(try simp only [nrm] at hb)<;>try exact kZ hb)|refine kV ?_)<;>(conv=>whnf))|refine kY ?_ ?_)
       refine Runs.loopS cfg_ok (σ:=Nat × List Int) [1,4,7,8] (fun (j,V)=>[.ptr 2 0,.own .u8 150101 0 V.length none,i64 k,i64 j]) (fun (_,V)=>[(2,.box (chunkC c)),(150101,.row .u8 V)]) (fun (j,V)=>j ≤ 6 ∧ V = U ++ ((elt .box c.boxes k).bag.take j).flatMap slotL ∧ V.length ≤ U.length + j * 20) (fun (j,_)=>6 - j) (0,U) ⟨by omega,by simp,by omega⟩ ?_ ?_
       ·exact fD0
       ·rintro ⟨j,V⟩ ⟨hj,hV,hVl⟩
        try dsimp only at hj hV hVl
        by_cases hjl : j < 6
        ·have hjl2 : j < (elt .box c.boxes k).bag.length:=by omega
         have hm:=elt_mem (t:=.slot) hjl2
         obtain ⟨s1,s2,s3,s4⟩:=u1_slot (hok.1 _ hm) (any_false (by simpa [bagOk] using hbo) hm)
         have l1:=uintL_len (elt .slot (elt .box c.boxes k).bag j).item.toNat
         have l2:=uintL_len (elt .slot (elt .box c.boxes k).bag j).n.toNat
         have q1 : (elt .slot (elt .box c.boxes (k : Int).toNat).bag (j : Int).toNat).item = (elt .slot (elt .box c.boxes k).bag j).item:=rfl
         have q2 : (elt .slot (elt .box c.boxes (k : Int).toNat).bag (j : Int).toNat).n = (elt .slot (elt .box c.boxes k).bag j).n:=rfl
         have q3 : (elt .box c.boxes (k : Int).toNat).bag.length = (elt .box c.boxes k).bag.length:=rfl
         have u1:=r01uint_ev V _ (elt .slot (elt .box c.boxes k).bag j).item rfl s1 (by omega) (by omega)
         have u2:=r01uint_ev (V ++ uintL (elt .slot (elt .box c.boxes k).bag j).item.toNat) _ (elt .slot (elt .box c.boxes k).bag j).n (by rw [List.length_append]) s3 (by omega) (by rw [List.length_append];omega)
         have hT2 : V ++ uintL (elt .slot (elt .box c.boxes k).bag j).item.toNat ++ uintL (elt .slot (elt .box c.boxes k).bag j).n.toNat = U ++ ((elt .box c.boxes k).bag.take (j + 1)).flatMap slotL:=by
          rw [flatMap_take (t:=.slot) slotL hjl2,hV]
          unfold slotL
          rw [putY2]
          simp only [List.append_assoc]
         have hT3 : (V ++ uintL (elt .slot (elt .box c.boxes k).bag j).item.toNat ++ uintL (elt .slot (elt .box c.boxes k).bag j).n.toNat).length ≤ U.length + (j + 1) * 20:=by
          simp only [List.length_append];omega
         conv=>whnf
         repeat' (first|exact trivial|((first|refine kL ?_|(refine ⟨fun hb=>?_,fun hb=>?_⟩<;>(try simp only [nrm] at hb)<;>try exact kZ hb)|refine kE u1 [(1,150101),(390001,150103)] rfl ?_|refine kF u1 [(1,150101),(390001,150103)] rfl ?_|refine kE u2 [(1,150103),(390001,150101)] rfl ?_|refine kF u2 [(1,150103),(390001,150101)] rfl ?_|refine kV ?_)<;>(conv=>whnf))|refine kY ?_ ?_)
         refine .to (j + 1,_) ⟨hjl,hT2,hT3⟩ (by first|omega|(dsimp only;omega)) ?_
         conv=>whnf
         repeat' (first|exact trivial|((first|(refine ⟨fun hb=>?_,fun hb=>?_⟩<;>(try simp only [nrm] at hb)<;>try exact kZ hb)|refine kV ?_)<;>(conv=>whnf))|refine kY ?_ ?_)
         all_goals first|rfl|(simp only [List.length_append];done)|(simp only [List.length_append,List.take_length];done)|(refine List.take_of_length_le ?_;simp only [List.length_append];omega)|trace_state
        ·obtain rfl : j = 6:=by omega
         rw [List.take_of_length_le (by omega)] at hV
         have hV2 : V = T ++ (c.boxes.take (k + 1)).flatMap boxL:=by rw [flatMap_take (t:=.box) boxL hlt,hV,hU,List.append_assoc];rfl
         conv=>whnf
         repeat' (first|exact trivial|((first|(refine ⟨fun hb=>?_,fun hb=>?_⟩<;>(try simp only [nrm] at hb)<;>try exact kZ hb)|refine kV ?_)<;>(conv=>whnf))|refine kY ?_ ?_)
         refine .to (k + 1,V) ⟨hlt,hV2,by first|omega|(dsimp only;omega)⟩ (by first|omega|(dsimp only;omega)) ?_
         exact fD0
      ·obtain rfl : k = c.boxes.length:=by omega
       rw [List.take_length] at hU
       rw [← hU]
       exact fD0
theorem uintL_one {z : Int} (h : 0 ≤ z) (h2 : z < 128) : uintL z.toNat = [z]:=by
 unfold uintL
 simp only [uintF]
 rw [if_pos (by omega)]
 congr 1
 omega
theorem gl_ok {s x y : Int} {i : Int} (h : i ∈ gl s x y 64) : i ≠ 9:=by
 unfold gl at h
 obtain ⟨j,_,rfl⟩:=List.mem_map.1 h
 exact (cellI_ok _ _ _).2
theorem same_plain {seed : Int} {c : Chunk} (h : rightB c = true) : eqL (bytesC c) (bytesC (genC seed c.x c.y)) = plainW seed c:=by
 have hh:=right_heaps h
 have hl:=right_len h
 have hgl:=gl_len seed c.x c.y 64
 unfold eqL plainW eqI
 rw [← Bool.decide_and,decide_eq_decide]
 have e0 : bytesC (genC seed c.x c.y) = putY [c.x,c.y] ++ (gl seed c.x c.y 64 ++ [0]):=by
  unfold bytesC genC
  simp only [List.length_nil,List.flatMap_nil,List.append_nil]
  rw [putY1,show ((0 : Nat) : Int).toNat = (0 : Int).toNat by rfl,uintL_one (by omega) (by omega),List.append_assoc]
 have e1 : bytesC c = putY [c.x,c.y] ++ (c.cells ++ ((c.heaps.length : Int) :: (c.heaps.flatMap heapL ++ c.boxes.flatMap boxL))):=by
  unfold bytesC
  rw [putY1,uintL_one (by omega) (by omega)]
  simp only [List.append_assoc,List.singleton_append,List.cons_append,List.nil_append]
 rw [e0,e1,List.append_cancel_left_eq]
 constructor
 ·intro e
  obtain ⟨a1,a2⟩:=List.append_inj e (by rw [hl,hgl])
  exact ⟨by have:=(List.cons.inj a2).1;omega,a1⟩
 ·rintro ⟨a1,a2⟩
  have hn : c.heaps = []:=List.eq_nil_of_length_eq_zero (by omega)
  have hf:=right_fits h
  have hb : c.boxes = []:=by
   cases hbx : c.boxes with
   | nil=>rfl
   | cons b r =>
    exfalso
    have hm : b ∈ c.boxes:=by rw [hbx];simp
    obtain ⟨b1,b2⟩:=(rightGo_rises _ _ _ (rightC_of h).go).2 b hm
    have hg:=getB_of_mem (rightC_of h).rises hm
    have h9:=(chest_iff h (a:=b.cell) (by omega) (by omega)).2 (by rw [hg];rfl)
    have hmem:=elt_mem (t:=.u8) (l:=c.cells) (i:=b.cell.toNat) (by omega)
    rw [h9,a2] at hmem
    exact gl_ok hmem rfl
  rw [hn,hb,a2];rfl
theorem u8_uintF : ∀ (f n : Nat),n < 128 ^ (f + 1) → okU8 (uintF f n)
 | 0,n,h=>by intro i hi;unfold uintF at hi;simp at hi h;omega
 | f + 1,n,h=>by
  intro i hi
  unfold uintF at hi
  split at hi
  ·simp at hi;omega
  ·rcases List.mem_cons.1 hi with rfl|hi
   ·omega
   ·exact u8_uintF f _ (by rw [Nat.pow_succ] at h;omega) i hi
theorem u8_uint (n : Nat) (h : n < 18446744073709551616) : okU8 (uintL n):=u8_uintF 9 n (by omega)
theorem u8_put (l : List Int) (h : ∀ z ∈ l,z < 18446744073709551616) : okU8 (putY l):=by
 intro i hi
 unfold putY at hi
 rw [List.mem_flatMap] at hi
 obtain ⟨z,hm,hz⟩:=hi
 exact u8_uint _ (by have:=h z hm;omega) i hz
theorem u8_app {a b : List Int} (ha : okU8 a) (hb : okU8 b) : okU8 (a ++ b):=fun i hi=>(List.mem_append.1 hi).elim (ha i) (hb i)
theorem u8_flat {α : Type} {f : α → List Int} {l : List α} (h : ∀ a ∈ l,okU8 (f a)) : okU8 (l.flatMap f):=fun i hi=>by
 obtain ⟨a,ha,h2⟩:=List.mem_flatMap.1 hi
 exact h a ha i h2
theorem bytesC_u8 {c : Chunk} (h : rightB c = true) : okU8 (bytesC c):=by
 have hp:=rightB_pos h
 have hh:=right_heaps h
 have hC:=okC_right h
 unfold bytesC
 refine u8_app (u8_app (u8_app (u8_app (u8_put _ ?_) hC.cells) (u8_put _ ?_)) (u8_flat fun x hx=>u8_put _ ?_)) (u8_flat fun b hb=>u8_flat fun s hs=>u8_put _ ?_)
 ·intro z hz;simp at hz;omega
 ·intro z hz;simp at hz;omega
 ·intro z hz
  obtain ⟨k1,k2,k3⟩:=right_heap h hx
  have k4:=(hC.heaps x hx).2
  have k5:=(someB_ok k1).2.2
  simp at hz
  rcases hz with rfl|rfl|rfl<;>omega
 ·intro z hz
  have k1:=((hC.boxes b hb).1 s hs).2
  have k2:=okN_slot (any_false (by simpa [bagOk] using (right_bag h hb).2) hs)
  simp at hz
  rcases hz with rfl|rfl<;>omega
theorem r13same_api (c : Chunk) (seed x y : Int) (h : rightB c = true) (hx : c.x = x) (hy : c.y = y) : Api Tryz.prog 262 [chunkV c,chunkV (genC seed x y)] (bol (plainW seed c)):=by
 subst hx hy
 have hp:=rightB_pos h
 have hg : rightB (genC seed c.x c.y) = true:=right_gen (by omega) (by omega)
 have h1:=r11bytes_api c (okC_right h) h
 have h2:=r11bytes_api _ (okC_right hg) hg
 have e:=same_plain (seed:=seed) h
 rw [← strOf_eq (bytesC_u8 h) (bytesC_u8 hg)] at e
 generalize bytesC c = A at *
 generalize bytesC (genC seed c.x c.y) = B at *
 generalize genC seed c.x c.y = G at *
 refine aF Tryz.func262 22 ?_
 ((try with_reducible refine evCut fun N hN hE hT=>?_);(conv=>whnf))
 repeat' (first|exact trivial|((first|((first|apply hT|apply hE|apply hN);clear hN hE hT)|(refine ⟨fun hb=>?_,fun hb=>?_⟩<;>(try simp only [nrm] at hb)<;>try exact kZ hb)|refine kV ?_)<;>((try with_reducible refine evCut fun N hN hE hT=>?_);(conv=>whnf)))|refine kY ?_ ?_)
 all_goals first|exact congrArg Value.bool e|trace_state
open Go Go.RowKit Eng
theorem put_step {w : Wld} {c : Chunk} (hR : RW w) (hB : rightB c = true) {x y : Int} (h0 : 0 ≤ x) (h1 : x < 16) : ltK keyC (16 * y + (x + 1)) (putL w.seed w.chunks c) = ltK keyC (16 * y + x) (putL w.seed w.chunks c) ++ (if x = c.x ∧ y = c.y then (if plainW w.seed c = true then [] else [c]) else w.chunks.filter (atB x y)):=by
 have hc:=rightB_pos hB
 rw [← at_putL (seed:=w.seed) hR.rc hR.xy ⟨hc.1,by omega⟩ h0 h1,at_eqK (fun b hb=>by rcases putL_mem hb with rfl|hb;exact ⟨hc.1,by omega⟩;exact hR.xy b hb) h0 h1,← Int.add_assoc]
 exact ltK_step (risesK_putL hR.rc)
theorem ltK_len {α : Type} {key : α → Int} {t : Int} {l : List α} : (ltK key t l).length ≤ l.length:=List.length_filter_le _ _
theorem r13put_api (w : Wld) (c : Chunk) (hw : OkW w) (hc : OkC c) (hf : FitC c) : Api Tryz.prog 223 [wldV w,chunkV c] (.tup [wldV (putW w c).1,i64 (putW w c).2]):=by
 have hrt:=r13right_api w hw
 have hcp:=r13copied_api w hw
 have hcr:=r11right_api c hc
 cases hR : rightW w with
 | false =>
  rw [hR] at hrt
  have hs : putW w c = (w,113):=by unfold putW;rw [if_pos hR]
  rw [hs]
  refine aF Tryz.func223 104 ?_
  exact fA0
 | true =>
  rw [hR] at hrt
  cases hB : rightB c with
  | false =>
   rw [hB] at hcr
   have hs : putW w c = (w,101):=by unfold putW;rw [if_neg (by rw [hR];simp),if_pos (.inr hB)]
   rw [hs]
   refine aF Tryz.func223 104 ?_
   exact fA0
  | true =>
   rw [hB] at hcr
   by_cases hM : max c.x c.y < w.size
   ·have hRW:=rightW_iff.1 hR
    have hsz:=hRW.size
    have hfew:=hRW.few
    have hcx:=rightB_pos hB
    have hst:=fun x y (h0 : 0 ≤ x) (h1 : x < 16)=>put_step (x:=x) (y:=y) hRW hB h0 h1
    have hTl:=@putL_length w.seed w.chunks c
    have hTx : ∀ b ∈ putL w.seed w.chunks c,0 ≤ b.x ∧ b.x < w.size ∧ 0 ≤ b.y ∧ b.y < w.size:=fun b hb=>by
     rcases putL_mem hb with rfl|hb
     ·omega
     ·have h1:=hRW.chunks b hb
      have h2:=rightB_pos h1.1
      omega
    have hcpc:=r11copied_ev c hf
    rw [put_eq hRW hB hM]
    unfold withCs
    dsimp only
    generalize putL w.seed w.chunks c = T at *
    refine aF Tryz.func223 104 ?_
    ((try with_reducible refine evCut fun N hN hE hT=>?_);(conv=>whnf))
    repeat' (first|exact trivial|((first|((first|apply hT|apply hE|apply hN);clear hN hE hT)|(refine ⟨fun hb=>?_,fun hb=>?_⟩<;>(try simp only [nrm] at hb)<;>try exact kZ hb)|refine kV ?_)<;>((try with_reducible refine evCut fun N hN hE hT=>?_);(conv=>whnf)))|refine kY ?_ ?_)
    refine Runs.loopQ cfg_ok (σ:=Nat × List Chunk) [3,4,6,7,8] (fun (y,L)=>[.ptr 6 0,.ptr 8 0,.ptr 12 0,.own .chunk 150101 0 L.length none,i64 y]) (fun (_,L)=>[(6,.box (chunkC c)),(8,.box zeroW13),(12,.box (wldC w)),(150101,.row .chunk L)])
     (fun (y,L)=>(y : Int) ≤ w.size ∧ L = ltK keyC (16 * y) T ∧ L.length ≤ 300) (fun (y,_)=>w.size.toNat - y) (0,[]) ⟨by first|omega|(dsimp only;omega),(ltK_nil fun b hb=>by have:=hTx b hb;unfold keyC;omega).symm,by simp⟩ ?_ ?_
    ·exact fB0
    ·rintro ⟨y,L⟩ ⟨hy,hL,hLl⟩ N hN hE hT
     try dsimp only at hy hL hLl
     by_cases hyl : (y : Int) < w.size
     ·conv=>whnf
      repeat' (first|exact trivial|((first|((first|apply hT|apply hE|apply hN);clear hN hE hT)|(refine ⟨fun hb=>?_,fun hb=>?_⟩<;>(try simp only [nrm] at hb)<;>try exact kZ hb)|refine kV ?_)<;>((try with_reducible refine evCut fun N hN hE hT=>?_);(conv=>whnf)))|refine kY ?_ ?_)
      refine Runs.loopQ cfg_ok (σ:=Nat × List Chunk) [3,4,6,7,8,9] (fun (x,L)=>[.ptr 6 0,.ptr 8 0,.ptr 12 0,.own .chunk 150101 0 L.length none,i64 y,i64 x]) (fun (_,L)=>[(6,.box (chunkC c)),(8,.box zeroW13),(12,.box (wldC w)),(150101,.row .chunk L)])
       (fun (x,L)=>(x : Int) ≤ w.size ∧ L = ltK keyC (16 * y + x) T ∧ L.length ≤ 300) (fun (x,_)=>w.size.toNat - x) (0,L) ⟨by first|omega|(dsimp only;omega),by (try dsimp only);rw [hL];congr 1,hLl⟩ ?_ ?_
      ·exact fB0
      ·rintro ⟨x,L⟩ ⟨hx,hL,hLl⟩ N hN hE hT
       try dsimp only at hx hL hLl
       by_cases hxl : (x : Int) < w.size
       ·have hs1:=hst x y (by omega) (by omega)
        rw [← hL] at hs1
        have hll:=@ltK_len _ keyC (16 * y + ((x : Int) + 1)) T
        by_cases he : (x : Int) = c.x ∧ (y : Int) = c.y
        ·rw [if_pos he] at hs1
         obtain ⟨he1,he2⟩:=he
         have hsm:=r13same_api c w.seed x y hB he1.symm he2.symm
         have hgn:=r12chunk_api w.seed x y (by omega) (by omega) (by omega) (by omega)
         generalize genC w.seed x y = G at *
         cases hP : plainW w.seed c with
         | true =>
          rw [hP] at hsm
          rw [if_pos hP,List.append_nil] at hs1
          conv=>whnf
          repeat' (first|exact trivial|((first|((first|apply hT|apply hE|apply hN);clear hN hE hT)|refine kL ?_|(refine ⟨fun hb=>?_,fun hb=>?_⟩<;>(try simp only [nrm] at hb)<;>try exact kZ hb)|refine kE hcpc [(390001,150001),(390003,150003),(390005,150005)] rfl ?_|refine kF hcpc [(390001,150001),(390003,150003),(390005,150005)] rfl ?_|refine kV ?_)<;>((try with_reducible refine evCut fun N hN hE hT=>?_);(conv=>whnf)))|refine kY ?_ ?_)
          refine .to (x + 1,L) ⟨by first|omega|(dsimp only;omega),by (try dsimp only);rw [← hs1];rfl,hLl⟩ (by first|omega|(dsimp only;omega)) ?_
          exact fB0
         | false =>
          rw [hP] at hsm
          rw [if_neg (by rw [hP];simp)] at hs1
          conv=>whnf
          repeat' (first|exact trivial|((first|((first|apply hT|apply hE|apply hN);clear hN hE hT)|refine kL ?_|(refine ⟨fun hb=>?_,fun hb=>?_⟩<;>(try simp only [nrm] at hb)<;>try exact kZ hb)|refine kE hcpc [(390001,150001),(390003,150003),(390005,150005)] rfl ?_|refine kF hcpc [(390001,150001),(390003,150003),(390005,150005)] rfl ?_|refine kV ?_)<;>((try with_reducible refine evCut fun N hN hE hT=>?_);(conv=>whnf)))|refine kY ?_ ?_)
          refine .to (x + 1,L ++ [c]) ⟨by first|omega|(dsimp only;omega),by (try dsimp only);rw [← hs1];rfl,by rw [← hs1];omega⟩ (by first|omega|(dsimp only;omega)) ?_
          conv=>whnf
          repeat' (first|exact trivial|((first|((first|apply hT|apply hE|apply hN);clear hN hE hT)|(refine ⟨fun hb=>?_,fun hb=>?_⟩<;>(try simp only [nrm] at hb)<;>try exact kZ hb)|refine kV ?_)<;>((try with_reducible refine evCut fun N hN hE hT=>?_);(conv=>whnf)))|refine kY ?_ ?_)
          all_goals first|rfl|(simp;done)|(refine growO ?_;simp only [List.drop_zero,List.take_length];done)|trace_state
        ·rw [if_neg he] at hs1
         have he1 : (x : Int) = c.x → ¬ (y : Int) = c.y:=fun h1 h2=>he ⟨h1,h2⟩
         conv=>whnf
         repeat' (first|exact trivial|((first|((first|apply hT|apply hE|apply hN);clear hN hE hT)|(refine ⟨fun hb=>?_,fun hb=>?_⟩<;>(try simp only [nrm] at hb)<;>try exact kZ hb)|refine kV ?_)<;>((try with_reducible refine evCut fun N hN hE hT=>?_);(conv=>whnf)))|refine kY ?_ ?_)
         all_goals
          refine Runs.loopQ cfg_ok (σ:=Nat × List Chunk) [3,4,6,7,8,9,10] (fun (i,M)=>[.ptr 6 0,.ptr 8 0,.ptr 12 0,.own .chunk 150101 0 M.length none,i64 y,i64 x,i64 i]) (fun (_,M)=>[(6,.box (chunkC c)),(8,.box zeroW13),(12,.box (wldC w)),(150101,.row .chunk M)])
           (fun (i,M)=>i ≤ w.chunks.length ∧ M = L ++ (w.chunks.take i).filter (atB x y) ∧ M.length ≤ 300 + i) (fun (i,_)=>w.chunks.length - i) (0,L) ⟨by omega,by simp,by omega⟩ ?_ ?_
          ·exact fB0
          ·rintro ⟨i,M⟩ ⟨hi,hM2,hMl⟩ N hN hE hT
           try dsimp only at hi hM2 hMl
           by_cases hil : i < w.chunks.length
           ·have ha:=at_take (x:=x) (y:=y) hil
            have q0 : (elt .chunk w.chunks (i : Int).toNat).x = (elt .chunk w.chunks i).x:=rfl
            have q1 : (elt .chunk w.chunks (i : Int).toNat).y = (elt .chunk w.chunks i).y:=rfl
            by_cases hk : (elt .chunk w.chunks i).x = x ∧ (elt .chunk w.chunks i).y = y
            ·rw [if_pos hk] at ha
             obtain ⟨hk1,hk2⟩:=hk
             conv=>whnf
             repeat' (first|exact trivial|((first|((first|apply hT|apply hE|apply hN);clear hN hE hT)|(refine ⟨fun hb=>?_,fun hb=>?_⟩<;>(try simp only [nrm] at hb)<;>try exact kZ hb)|refine kV ?_)<;>((try with_reducible refine evCut fun N hN hE hT=>?_);(conv=>whnf)))|refine kY ?_ ?_)
             refine .to (i + 1,M ++ [elt .chunk w.chunks i]) ⟨hil,by (try dsimp only);rw [ha,hM2,List.append_assoc],by simp;omega⟩ (by first|omega|(dsimp only;omega)) ?_
             exact fB0
            ·rw [if_neg hk,List.append_nil] at ha
             have hk1 : (elt .chunk w.chunks i).x = x → ¬ (elt .chunk w.chunks i).y = y:=fun h1 h2=>hk ⟨h1,h2⟩
             conv=>whnf
             repeat' (first|exact trivial|((first|((first|apply hT|apply hE|apply hN);clear hN hE hT)|(refine ⟨fun hb=>?_,fun hb=>?_⟩<;>(try simp only [nrm] at hb)<;>try exact kZ hb)|refine kV ?_)<;>((try with_reducible refine evCut fun N hN hE hT=>?_);(conv=>whnf)))|refine kY ?_ ?_)
             all_goals
              refine .to (i + 1,M) ⟨hil,by (try dsimp only);rw [ha,hM2],by first|omega|(dsimp only;omega)⟩ (by first|omega|(dsimp only;omega)) ?_
              exact fB0
           ·obtain rfl : i = w.chunks.length:=by omega
            rw [List.take_length,← hs1] at hM2
            conv=>whnf
            repeat' (first|exact trivial|((first|((first|apply hT|apply hE|apply hN);clear hN hE hT)|(refine ⟨fun hb=>?_,fun hb=>?_⟩<;>(try simp only [nrm] at hb)<;>try exact kZ hb)|refine kV ?_)<;>((try with_reducible refine evCut fun N hN hE hT=>?_);(conv=>whnf)))|refine kY ?_ ?_)
            refine .to (x + 1,M) ⟨by first|omega|(dsimp only;omega),by (try dsimp only);rw [hM2];rfl,by rw [hM2];omega⟩ (by first|omega|(dsimp only;omega)) ?_
            exact fB0
       ·have hxe : (x : Int) = w.size:=by omega
        conv=>whnf
        repeat' (first|exact trivial|((first|((first|apply hT|apply hE|apply hN);clear hN hE hT)|(refine ⟨fun hb=>?_,fun hb=>?_⟩<;>(try simp only [nrm] at hb)<;>try exact kZ hb)|refine kV ?_)<;>((try with_reducible refine evCut fun N hN hE hT=>?_);(conv=>whnf)))|refine kY ?_ ?_)
        refine .to (y + 1,L) ⟨by first|omega|(dsimp only;omega),by (try dsimp only);rw [hL,hxe,ltK_row (fun b hb=>by have:=hTx b hb;omega) (by omega)];rfl,hLl⟩ (by first|omega|(dsimp only;omega)) ?_
        exact fB0
     ·have hye : (y : Int) = w.size:=by omega
      have hL2 : L = T:=by rw [hL,hye];exact ltK_all fun b hb=>by have:=hTx b hb;unfold keyC;omega
      conv=>whnf
      repeat' (first|exact trivial|((first|((first|apply hT|apply hE|apply hN);clear hN hE hT)|(refine ⟨fun hb=>?_,fun hb=>?_⟩<;>(try simp only [nrm] at hb)<;>try exact kZ hb)|refine kV ?_)<;>((try with_reducible refine evCut fun N hN hE hT=>?_);(conv=>whnf)))|refine kY ?_ ?_)
      all_goals first|rfl|exact hL2|(rw [List.drop_zero,List.take_length];exact hL2)|(rw [List.take_length];exact hL2)|trace_state
   ·have hs : putW w c = (w,101):=by unfold putW;rw [if_neg (by rw [hR];simp),if_pos (.inl (by omega))]
    rw [hs]
    refine aF Tryz.func223 104 ?_
    exact fA0
theorem grow2 {α : Type} {L : List α} {p q a b : α} (h1 : a = p) (h2 : b = q) : List.take (L.length + (List.take 1 (List.drop 0 [a])).length + (List.take 1 (List.drop 0 [b])).length) (List.take (L.length + (List.take 1 (List.drop 0 [a])).length) (List.take L.length L ++ List.take 1 (List.drop 0 [a])) ++ List.take 1 (List.drop 0 [b])) = L ++ [p] ++ [q]:=by
 subst h1 h2
 rw [List.take_length]
 show List.take (L.length + 1 + 1) (List.take (L.length + 1) (L ++ [a]) ++ [b]) = L ++ [a] ++ [b]
 rw [List.take_of_length_le (l:=L ++ [a]) (by simp),List.take_of_length_le (by simp)]
abbrev setBox (p : Player) (d : Bool) : Blk:=match d with
 | true=>.box [i64 p.id,i64 p.x,i64 p.y,.top,i64 p.wth,.top,bol p.agrees]
 | false=>.box [i64 p.id,i64 p.x,i64 p.y,.own .slot 95 0 p.bag.length none,i64 p.wth,.own .slot 103 0 p.offer.length none,bol p.agrees]
abbrev setMem (w : Wld) (p : Player) (L : List Player) (d : Bool) : Mem:=match d with
 | true=>[(6,setBox p true),(8,.box zeroW13),(12,.box (wldC w)),(150101,.row .player L)]
 | false=>[(6,setBox p false),(8,.box zeroW13),(12,.box (wldC w)),(150101,.row .player L),(95,.row .slot p.bag),(103,.row .slot p.offer)]
theorem r13set_api (w : Wld) (p : Player) (hw : OkW w) (hp : OkP p) : Api Tryz.prog 83 [wldV w,playerV p] (.tup [wldV (setW w p).1,i64 (setW w p).2]):=by
 have hrt:=r13right_api w hw
 have hcp:=r13copied_api w hw
 have hpl:=rplayer_api p hp
 have hgp:=r13player_api w p.id hw
 have hb1:=hp.nb
 have hb2:=hp.no
 cases hR : rightW w with
 | false =>
  rw [hR] at hrt
  have hs : setW w p = (w,113):=by unfold setW;rw [if_pos hR]
  rw [hs]
  refine aF Tryz.func83 102 ?_
  exact fA0
 | true =>
  rw [hR] at hrt
  have hRW:=rightW_iff.1 hR
  have hsz:=hRW.size
  have hth:=r13there_api w p ⟨hsz.1,hsz.2.1⟩
  cases hS : soundB p with
  | false =>
   rw [hS] at hpl
   have hs : setW w p = (w,110):=by unfold setW;rw [if_neg (by rw [hR];simp),if_pos (.inl hS)]
   rw [hs]
   refine aF Tryz.func83 102 ?_
   exact fA0
  | true =>
   rw [hS] at hpl
   cases hI : withinW w.size p.x p.y with
   | false =>
    rw [hI] at hth
    have hs : setW w p = (w,110):=by unfold setW;rw [if_neg (by rw [hR];simp),if_pos (.inr hI)]
    rw [hs]
    refine aF Tryz.func83 102 ?_
    exact fA0
   | true =>
    rw [hI] at hth
    have e : playerW w p.id = match getK pid w.players p.id with|some p=>(p,true)|none=>(zeroP,false):=by
     unfold playerW;rw [if_neg (by rw [hR];simp)];rfl
    have e2 : (playerW w p.id).2 = (getK pid w.players p.id).isSome:=by rw [e];cases getK pid w.players p.id<;>rfl
    rw [e2] at hgp
    generalize (playerW w p.id).1 = Z at *
    by_cases hF : (getK pid w.players p.id).isSome = false ∧ 32 ≤ w.players.length
    ·have hs : setW w p = (w,3):=by unfold setW;rw [if_neg (by rw [hR];simp),if_neg (by rw [hS,hI];simp),if_neg (by rw [hF.1];simp),if_pos hF.2]
     rw [hs]
     rw [hF.1] at hgp
     have hF2:=hF.2
     refine aF Tryz.func83 102 ?_
     exact fA0
    ·have ho : setOk w p:=⟨hRW,hS,hI,by
      cases hg : (getK pid w.players p.id).isSome with
      | true=>exact .inl rfl
      | false=>exact .inr (by rw [hg] at hF;simp at hF;omega)⟩
     rw [set_eq ho,← refS_setL hRW.rp]
     unfold withP
     dsimp only
     cases hg : (getK pid w.players p.id).isSome
     all_goals
      rw [hg] at hgp
      have hlen : (getK pid w.players p.id).isSome = false → w.players.length < 32:=fun h=>by rw [h] at hF;simp at hF;omega
      rw [hg] at hlen
      first|(have hlen2:=hlen rfl)|skip
      refine aF Tryz.func83 102 ?_
      ((try with_reducible refine evCut fun N hN hE hT=>?_);(conv=>whnf))
      repeat' (first|exact trivial|((first|((first|apply hT|apply hE|apply hN);clear hN hE hT)|(refine ⟨fun hb=>?_,fun hb=>?_⟩<;>(try simp only [nrm] at hb)<;>try exact kZ hb)|refine kV ?_)<;>((try with_reducible refine evCut fun N hN hE hT=>?_);(conv=>whnf)))|refine kY ?_ ?_)
      refine Runs.loopS cfg_ok (σ:=Nat × Bool × List Player) [3,4,6,9,10,11] (fun (k,d,L)=>[.ptr 6 0,.ptr 8 0,.ptr 12 0,.own .player 150101 0 L.length none,bol d,i64 k]) (fun (k,d,L)=>setMem w p L d)
       (fun (k,d,L)=>k ≤ w.players.length ∧ L ++ refS p (w.players.drop k) d = refS p w.players false ∧ L.length ≤ k + d.toNat) (fun (k,_,_)=>w.players.length - k) (0,false,[]) ⟨by omega,rfl,by simp⟩ ?_ ?_
      ·exact fB0
      ·rintro ⟨k,d,L⟩ ⟨hk,hL,hLl⟩
       try dsimp only at hk hL hLl
       by_cases hlt : k < w.players.length
       ·rw [drop_elt (t:=.player) hlt] at hL
        have q0 : (elt .player w.players (k : Int).toNat).id = (elt .player w.players k).id:=rfl
        cases d with
        | true =>
         simp only [Bool.toNat_true] at hLl
         rw [refS_cons,if_neg (show ¬ (true = false ∧ p.id ≤ (elt .player w.players k).id) by simp),Bool.true_or,List.nil_append] at hL
         by_cases h2 : (elt .player w.players k).id = p.id
         ·rw [if_pos h2,List.nil_append] at hL
          conv=>whnf
          repeat' (first|exact trivial|((first|((first|apply hT|apply hE|apply hN);clear hN hE hT)|(refine ⟨fun hb=>?_,fun hb=>?_⟩<;>(try simp only [nrm] at hb)<;>try exact kZ hb)|refine kV ?_)<;>((try with_reducible refine evCut fun N hN hE hT=>?_);(conv=>whnf)))|refine kY ?_ ?_)
          refine .to (k + 1,true,L) ⟨hlt,hL,by simp;omega⟩ (by first|omega|(dsimp only;omega)) ?_
          conv=>whnf
          repeat' (first|exact trivial|((first|((first|apply hT|apply hE|apply hN);clear hN hE hT)|(refine ⟨fun hb=>?_,fun hb=>?_⟩<;>(try simp only [nrm] at hb)<;>try exact kZ hb)|refine kV ?_)<;>((try with_reducible refine evCut fun N hN hE hT=>?_);(conv=>whnf)))|refine kY ?_ ?_)
          all_goals first|rfl|exact List.take_length|exact growO rfl|exact grow2 (by simp only [List.drop_zero,List.take_length]) rfl|(simp;done)|trace_state
         ·rw [if_neg h2] at hL
          conv=>whnf
          repeat' (first|exact trivial|((first|((first|apply hT|apply hE|apply hN);clear hN hE hT)|(refine ⟨fun hb=>?_,fun hb=>?_⟩<;>(try simp only [nrm] at hb)<;>try exact kZ hb)|refine kV ?_)<;>((try with_reducible refine evCut fun N hN hE hT=>?_);(conv=>whnf)))|refine kY ?_ ?_)
          refine .to (k + 1,true,L ++ [elt .player w.players k]) ⟨hlt,by rw [← hL];simp,by simp;omega⟩ (by first|omega|(dsimp only;omega)) ?_
          conv=>whnf
          repeat' (first|exact trivial|((first|((first|apply hT|apply hE|apply hN);clear hN hE hT)|(refine ⟨fun hb=>?_,fun hb=>?_⟩<;>(try simp only [nrm] at hb)<;>try exact kZ hb)|refine kV ?_)<;>((try with_reducible refine evCut fun N hN hE hT=>?_);(conv=>whnf)))|refine kY ?_ ?_)
          all_goals first|rfl|exact List.take_length|exact growO rfl|exact grow2 (by simp only [List.drop_zero,List.take_length]) rfl|(simp;done)|trace_state
        | false =>
         simp only [Bool.toNat_false] at hLl
         by_cases h1 : (elt .player w.players k).id < p.id
         ·rw [refS_lt h1] at hL
          conv=>whnf
          repeat' (first|exact trivial|((first|((first|apply hT|apply hE|apply hN);clear hN hE hT)|(refine ⟨fun hb=>?_,fun hb=>?_⟩<;>(try simp only [nrm] at hb)<;>try exact kZ hb)|refine kV ?_)<;>((try with_reducible refine evCut fun N hN hE hT=>?_);(conv=>whnf)))|refine kY ?_ ?_)
          refine .to (k + 1,false,L ++ [elt .player w.players k]) ⟨hlt,by rw [← hL];simp,by simp;omega⟩ (by first|omega|(dsimp only;omega)) ?_
          conv=>whnf
          repeat' (first|exact trivial|((first|((first|apply hT|apply hE|apply hN);clear hN hE hT)|(refine ⟨fun hb=>?_,fun hb=>?_⟩<;>(try simp only [nrm] at hb)<;>try exact kZ hb)|refine kV ?_)<;>((try with_reducible refine evCut fun N hN hE hT=>?_);(conv=>whnf)))|refine kY ?_ ?_)
          all_goals first|rfl|exact List.take_length|exact growO rfl|exact grow2 (by simp only [List.drop_zero,List.take_length]) rfl|(simp;done)|trace_state
         ·by_cases h2 : (elt .player w.players k).id = p.id
          ·rw [refS_eq h2] at hL
           conv=>whnf
           repeat' (first|exact trivial|((first|((first|apply hT|apply hE|apply hN);clear hN hE hT)|(refine ⟨fun hb=>?_,fun hb=>?_⟩<;>(try simp only [nrm] at hb)<;>try exact kZ hb)|refine kV ?_)<;>((try with_reducible refine evCut fun N hN hE hT=>?_);(conv=>whnf)))|refine kY ?_ ?_)
           refine .to (k + 1,true,L ++ [p]) ⟨hlt,by rw [← hL];simp,by simp;omega⟩ (by first|omega|(dsimp only;omega)) ?_
           conv=>whnf
           repeat' (first|exact trivial|((first|((first|apply hT|apply hE|apply hN);clear hN hE hT)|(refine ⟨fun hb=>?_,fun hb=>?_⟩<;>(try simp only [nrm] at hb)<;>try exact kZ hb)|refine kV ?_)<;>((try with_reducible refine evCut fun N hN hE hT=>?_);(conv=>whnf)))|refine kY ?_ ?_)
           all_goals first|rfl|exact List.take_length|exact growO rfl|(refine growO ?_;simp only [List.drop_zero,List.take_length];done)|(simp;done)|trace_state
          ·rw [refS_gt (by omega)] at hL
           conv=>whnf
           repeat' (first|exact trivial|((first|((first|apply hT|apply hE|apply hN);clear hN hE hT)|(refine ⟨fun hb=>?_,fun hb=>?_⟩<;>(try simp only [nrm] at hb)<;>try exact kZ hb)|refine kV ?_)<;>((try with_reducible refine evCut fun N hN hE hT=>?_);(conv=>whnf)))|refine kY ?_ ?_)
           refine .to (k + 1,true,L ++ [p] ++ [elt .player w.players k]) ⟨hlt,by rw [← hL];simp,by simp;omega⟩ (by first|omega|(dsimp only;omega)) ?_
           conv=>whnf
           repeat' (first|exact trivial|((first|((first|apply hT|apply hE|apply hN);clear hN hE hT)|(refine ⟨fun hb=>?_,fun hb=>?_⟩<;>(try simp only [nrm] at hb)<;>try exact kZ hb)|refine kV ?_)<;>((try with_reducible refine evCut fun N hN hE hT=>?_);(conv=>whnf)))|refine kY ?_ ?_)
           all_goals first|rfl|exact List.take_length|exact growO rfl|exact grow2 (by simp only [List.drop_zero,List.take_length]) rfl|(simp;done)|trace_state
       ·obtain rfl : k = w.players.length:=by omega
        rw [List.drop_length] at hL
        cases d
        all_goals
         simp only [refS] at hL
         simp only [Bool.toNat_true,Bool.toNat_false] at hLl
         first|rw [if_neg Bool.false_ne_true] at hL|rw [if_neg (fun h=>h)] at hL|rw [if_pos rfl,List.append_nil] at hL|rw [if_pos trivial,List.append_nil] at hL|trace_state
         conv=>whnf
         repeat' (first|exact trivial|((first|((first|apply hT|apply hE|apply hN);clear hN hE hT)|(refine ⟨fun hb=>?_,fun hb=>?_⟩<;>(try simp only [nrm] at hb)<;>try exact kZ hb)|refine kV ?_)<;>((try with_reducible refine evCut fun N hN hE hT=>?_);(conv=>whnf)))|refine kY ?_ ?_)
         all_goals first|rfl|(refine Eq.trans ?_ hL;rw [List.drop_zero];refine growO ?_;simp only [List.drop_zero,List.take_length];done)|(refine Eq.trans ?_ hL;rw [List.drop_zero,List.take_length])|(refine Eq.trans ?_ hL;rw [List.take_length])|trace_state
open Go Go.RowKit Eng
theorem here_set {w : Wld} {p p' : Player} (h : Here w p) (hid : p'.id = p.id) (hs : soundB p' = true) (hin : withinW w.size p'.x p'.y = true) : setW w p' = (withP w (setL w.players p'),0):=
 set_eq ⟨h.rw,hs,hin,.inl (by rw [hid,h.get];rfl)⟩
theorem here_put {w : Wld} {p : Player} {k : Chunk} (h : Here w p) (hk : rightB k = true) (hm : max k.x k.y < w.size) : Here (putW w k).1 p ∧ (putW w k).2 = 0 ∧ (putW w k).1.size = w.size:=by
 have e:=put_eq h.rw hk hm
 rw [e]
 exact ⟨⟨rw_put h.rw hk hm,h.get⟩,rfl,rfl⟩
theorem here_keep {w : Wld} {p p' : Player} {k : Chunk} (h : Here w p) (hid : p'.id = p.id) (hs : soundB p' = true) (hin : withinW w.size p'.x p'.y = true) (hk : rightB k = true) (hm : max k.x k.y < w.size) :
  keepA w k p' = ((setW (putW w k).1 p').1,0):=by
 obtain ⟨h1,h2,h3⟩:=here_put h hk hm
 unfold keepA
 rw [if_neg (not_not_intro h2)]
 have e:=here_set h1 hid hs (by rw [h3];exact hin)
 rw [e]
theorem here_max {w : Wld} {p : Player} {x y : Int} (h : Here w p) (hin : withinW w.size x y = true) {k : Chunk} (hx : k.x = (placeC w x y).x) (hy : k.y = (placeC w x y).y) : max k.x k.y < w.size:=by
 obtain ⟨_,h2,h3⟩:=place_right h.rw hin
 have:=(within_iff h.rw).1 hin
 omega
def okA (w : Wld) (r : Wld × Int) : Wld × Int:=if r.2 = 0 then (r.1,0) else (w,r.2)
theorem okA_err {w w' : Wld} {e : Int} (h : ¬ e = 0) : okA w (w',e) = (w,e):=if_neg h
theorem okA_ok {w w' : Wld} : okA w (w',0) = (w',0):=if_pos rfl
theorem apply_ref {w : Wld} {id : Int} {c : Cmd} (hR : rightW w = true) (hD : rightD c = true) (hp : (playerW w id).2 = true) (h1 : ¬ c.dol = 1) : applyW w id c = okA w (actA w (playerW w id).1 c):=by
 unfold applyW okA
 rw [if_neg (by rw [hR];simp),if_neg (by rw [hD];simp),if_neg (by rw [hp,decide_eq_false h1];simp),if_neg h1]
 by_cases h : (actA w (playerW w id).1 c).2 = 0
 ·rw [if_neg (not_not_intro h),if_pos h]
 ·rw [if_pos h,if_neg h]
end Go.Proofs.YtkojlembanldcaaGreat
