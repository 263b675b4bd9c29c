/- The reference of worlds. -/
import Derived.Test.YtkojlembanldcaaGreatSa
import Derived.Test.YtkojlembanldcaaGreatRz
import Derived.Test.YtkojlembanldcaaGreatGi
set_option linter.unusedSimpArgs false
set_option linter.unusedVariables false
set_option maxRecDepth 100000
set_option maxHeartbeats 16000000
namespace Go.Proofs.YtkojlembanldcaaGreat
open Go Go.RowKit Eng
theorem wX (f : Nat) (hf9 : f ≤ 9) : ∀ (n : Nat),n < 128 ^ (f + 1) → n < 18446744073709551616 → Api Tryz.prog 289 [.lit (.int .u64 n)] (.vec .u8 (gw f n)):=by
 induction f with
 | zero =>
  intro n hn hm
  have h1 : n < 128:=by simpa using hn
  have e : gw 0 n = [(n : Int)]:=rfl
  rw [e]
  refine aF Tryz.func289 16 ?_
  exact fD0
 | succ f ih =>
  intro n hn hm
  have hq : n / 128 < 128 ^ (f + 1):=Nat.div_lt_of_lt_mul (by rw [Nat.pow_succ] at hn;omega)
  have hi : Api Tryz.prog 289 [.lit (.int .u64 ((n : Int) / 128))] (.vec .u8 (gw f (n / 128))):=ih (by omega) (n / 128) hq (by omega)
  have hl:=mX f (n / 128)
  have e : gw (f + 1) n = if n < 128 then [(n : Int)] else ((n % 128 + 128 : Nat) : Int) :: gw f (n / 128):=rfl
  rw [e]
  by_cases h : n < 128
  ·rw [if_pos h]
   refine aF Tryz.func289 16 ?_
   exact fD0
  ·rw [if_neg h]
   generalize gw f (n / 128) = R at *
   refine aF Tryz.func289 16 ?_
   conv=>whnf
   repeat' (first|exact trivial|((first|(refine ⟨fun hb=>?_,fun hb=>?_⟩<;>(try simp only [nrm] at hb)<;>try exact kZ hb)|refine kV ?_)<;>(conv=>whnf))|refine kY ?_ ?_)
   all_goals first|(simp only [List.drop_zero];refine (List.take_of_length_le (by simp;omega)).trans ?_;exact congrArg (· :: R) (by omega))|rfl|(simp;done)|omega|trace_state
theorem JW (a b X Y : List (El .u8)) : List.take (a.length + b.length) (List.take a.length (a ++ X) ++ (b ++ Y)) = a ++ b:=by
 rw [List.take_left' rfl,← List.append_assoc,← List.length_append]
 exact List.take_left' rfl
theorem Gk (a b : List (El .u8)) (n : Nat) (hn : n = a.length) (hl : a.length + b.length ≤ 140737488355328) : Ev1 Tryz.prog 288 [.own .u8 1 0 n none,.vec .u8 b] [(1,.row .u8 a)] (.own .u8 390001 0 (n + b.length) none) [(390001,.row .u8 (a ++ b))]:=by
 subst hn
 refine eF Tryz.func288 16 ?_
 conv=>whnf
 repeat' (first|exact trivial|((first|(refine ⟨fun hb=>?_,fun hb=>?_⟩<;>(try simp only [nrm] at hb)<;>try exact kZ hb)|refine kV ?_)<;>(conv=>whnf))|refine kY ?_ ?_)
 all_goals first|rfl|(simp;done)|omega|(simp only [List.drop_zero,List.take_length,Int.toNat_zero,Nat.zero_add,Nat.add_zero,List.take_zero,List.nil_append];exact JW _ _ _ _)|trace_state
theorem D6 (b : List (El .u8)) (hl : b.length ≤ 140737488355328) : Ev1 Tryz.prog 288 [.lit (.slice none 0 0),.vec .u8 b] [] (.own .u8 390001 0 b.length none) [(390001,.row .u8 b)]:=by
 refine eF Tryz.func288 16 ?_
 exact fD0
theorem gx (a : List (El .u8)) (n : Nat) (z : Int) (hn : n = a.length) (h0 : 0 ≤ z) (hz : z ≤ 18446744073709551615) (hl : a.length ≤ 100000000000000) : Ev1 Tryz.prog 286 [.own .u8 1 0 n none,.lit (.int .u64 z)] [(1,.row .u8 a)] (.own .u8 390001 0 (n + (bF z.toNat).length) none) [(390001,.row .u8 (a ++ bF z.toNat))]:=by
 have hv:=wX 9 (Nat.le_refl 9) z.toNat (by omega) (by omega)
 rw [Int.toNat_of_nonneg h0] at hv
 have hu:=mX 9 z.toNat
 change Api _ _ _ (.vec .u8 (bF z.toNat)) at hv
 change (bF z.toNat).length ≤ 10 at hu
 generalize bF z.toNat = B at *
 have hb:=Gk a B n hn (by omega)
 refine eF Tryz.func286 7 ?_
 conv=>whnf
 repeat' (first|exact trivial|((first|refine kL ?_|(refine ⟨fun hb=>?_,fun hb=>?_⟩<;>(try simp only [nrm] at hb)<;>try exact kZ hb)|refine kE hb [(1,1),(390001,350001)] rfl ?_|refine kF hb [(1,1),(390001,350001)] rfl ?_|refine kA hv ?_|refine kD hv ?_|refine kV ?_)<;>(conv=>whnf))|refine kY ?_ ?_)
 all_goals first|exact List.take_of_length_le (by rw [List.length_append];omega)|rfl|(simp;done)|omega|trace_state
theorem Bh (z : Int) (h0 : 0 ≤ z) (hz : z ≤ 18446744073709551615) : Ev1 Tryz.prog 286 [.lit (.slice none 0 0),.lit (.int .u64 z)] [] (.own .u8 390001 0 (bF z.toNat).length none) [(390001,.row .u8 (bF z.toNat))]:=by
 have hv:=wX 9 (Nat.le_refl 9) z.toNat (by omega) (by omega)
 rw [Int.toNat_of_nonneg h0] at hv
 have hu:=mX 9 z.toNat
 change Api _ _ _ (.vec .u8 (bF z.toNat)) at hv
 change (bF z.toNat).length ≤ 10 at hu
 generalize bF z.toNat = B at *
 have hb:=D6 B (by omega)
 refine eF Tryz.func286 7 ?_
 conv=>whnf
 repeat' (first|exact trivial|((first|refine kL ?_|(refine ⟨fun hb=>?_,fun hb=>?_⟩<;>(try simp only [nrm] at hb)<;>try exact kZ hb)|refine kE hb [(390001,350001)] rfl ?_|refine kF hb [(390001,350001)] rfl ?_|refine kA hv ?_|refine kD hv ?_|refine kV ?_)<;>(conv=>whnf))|refine kY ?_ ?_)
 all_goals first|exact List.take_of_length_le (by rw [List.length_append];omega)|rfl|(simp;done)|omega|trace_state
open Go Go.RowKit Eng
abbrev eX : List AV:=[i64 0,.lit (.int .u64 0),i64 0,.lit (.slice none 0 0),.lit (.slice none 0 0)]
theorem fp (w : Wld) (hw : OkW w) : Api Tryz.prog 37 [az w] (az w):=by
 have h1:=hw.nc
 have h2:=hw.np
 refine aF Tryz.func37 60 ?_
 ((try with_reducible refine ab fun N hN hE hT=>?_);(conv=>whnf))
 repeat' (first|exact trivial|((first|((first|apply hT|apply hE|apply hN);clear hN hE hT)|(refine ⟨fun hb=>?_,fun hb=>?_⟩<;>(try simp only [nrm] at hb)<;>try exact kZ hb)|refine kV ?_)<;>((try with_reducible refine ab fun N hN hE hT=>?_);(conv=>whnf)))|refine kY ?_ ?_)
 refine ap.loopS ah (σ:=Nat) [1,2,3,4] (fun k=>[.ptr 2 0,.ptr 4 0,.ptr 6 0,i64 k]) (fun k=>[(2,.box (bA w)),(4,.box eX),(6,.box [i64 w.size,.lit (.int .u64 w.seed),i64 w.tick,.own .chunk 150101 0 k none,.lit (.slice none 0 0)]),(150101,.row .chunk (w.chunks.take k))]) (fun k=>k ≤ w.chunks.length) (fun k=>w.chunks.length - k) 0 (by omega) ?_ ?_
 ·exact fB0
 ·intro k hk
  by_cases hlt : k < w.chunks.length
  ·have hf:=hw.fit _ (ao (t:=.chunk) hlt)
   have hcp:=fc (elt .chunk w.chunks k) hf
   have hnx:=ja (tt:=.chunk) hlt
   conv=>whnf
   repeat' (first|exact trivial|((first|((first|apply hT|apply hE|apply hN);clear hN hE hT)|refine kL ?_|(refine ⟨fun hb=>?_,fun hb=>?_⟩<;>(try simp only [nrm] at hb)<;>try exact kZ hb)|refine kE hcp [(390001,150001),(390003,150003),(390005,150005)] rfl ?_|refine kF hcp [(390001,150001),(390003,150003),(390005,150005)] rfl ?_|refine kV ?_)<;>((try with_reducible refine ab fun N hN hE hT=>?_);(conv=>whnf)))|refine kY ?_ ?_)
   refine .to (k + 1) hlt (by omega) ?_
   conv=>whnf
   repeat' (first|exact trivial|((first|((first|apply hT|apply hE|apply hN);clear hN hE hT)|(refine ⟨fun hb=>?_,fun hb=>?_⟩<;>(try simp only [nrm] at hb)<;>try exact kZ hb)|refine kV ?_)<;>((try with_reducible refine ab fun N hN hE hT=>?_);(conv=>whnf)))|refine kY ?_ ?_)
   all_goals first|rfl|(simp;done)|(simp;exact Ia hnx hlt (Ae _ _) rfl rfl)|trace_state
  ·obtain rfl : k = w.chunks.length:=by omega
   rw [List.take_length]
   conv=>whnf
   repeat' (first|exact trivial|((first|((first|apply hT|apply hE|apply hN);clear hN hE hT)|(refine ⟨fun hb=>?_,fun hb=>?_⟩<;>(try simp only [nrm] at hb)<;>try exact kZ hb)|refine kV ?_)<;>((try with_reducible refine ab fun N hN hE hT=>?_);(conv=>whnf)))|refine kY ?_ ?_)
   refine ap.loopS ah (σ:=Nat) [1,2,3,5] (fun k=>[.ptr 2 0,.ptr 4 0,.ptr 6 0,i64 k]) (fun k=>[(2,.box (bA w)),(4,.box eX),(6,.box [i64 w.size,.lit (.int .u64 w.seed),i64 w.tick,.own .chunk 150101 0 w.chunks.length none,.own .player 150103 0 k none]),(150101,.row .chunk w.chunks),(150103,.row .player (w.players.take k))]) (fun k=>k ≤ w.players.length) (fun k=>w.players.length - k) 0 (by omega) ?_ ?_
   ·exact fB0
   ·intro k hk
    by_cases hlt : k < w.players.length
    ·have hf:=hw.players _ (ao (t:=.player) hlt)
     have n1:=hf.nb
     have n2:=hf.no
     have hnx:=ja (tt:=.player) hlt
     conv=>whnf
     repeat' (first|exact trivial|((first|((first|apply hT|apply hE|apply hN);clear hN hE hT)|(refine ⟨fun hb=>?_,fun hb=>?_⟩<;>(try simp only [nrm] at hb)<;>try exact kZ hb)|refine kV ?_)<;>((try with_reducible refine ab fun N hN hE hT=>?_);(conv=>whnf)))|refine kY ?_ ?_)
     refine .to (k + 1) hlt (by omega) ?_
     conv=>whnf
     repeat' (first|exact trivial|((first|((first|apply hT|apply hE|apply hN);clear hN hE hT)|(refine ⟨fun hb=>?_,fun hb=>?_⟩<;>(try simp only [nrm] at hb)<;>try exact kZ hb)|refine kV ?_)<;>((try with_reducible refine ab fun N hN hE hT=>?_);(conv=>whnf)))|refine kY ?_ ?_)
     all_goals first|rfl|(simp;done)|(simp;exact Ia hnx hlt (Ae _ _) rfl rfl)|trace_state
    ·obtain rfl : k = w.players.length:=by omega
     rw [List.take_length]
     exact fB0
theorem Cp {s x y : Int} (hs : 1 ≤ s ∧ s ≤ 16) : av s x y = true ↔ 0 ≤ x ∧ 0 ≤ y ∧ x < 8 * s ∧ y < 8 * s:=by
 unfold av
 rw [pI (by omega) (by omega)]
 simp only [Bool.and_eq_true,decide_eq_true_eq]
 omega
theorem qx (w : Wld) (p : Player) (hs : 1 ≤ w.size ∧ w.size ≤ 16) : Api Tryz.prog 154 [az w,aw p] (bol (av w.size p.x p.y)):=by
 have h:=Cp (x:=p.x) (y:=p.y) hs
 cases hW : av w.size p.x p.y with
 | true =>
  obtain ⟨h1,h2,h3,h4⟩:=h.1 hW
  refine aF Tryz.func154 27 ?_
  conv=>whnf
  repeat' (first|exact trivial|((first|(refine ⟨fun hb=>?_,fun hb=>?_⟩<;>(try simp only [nrm] at hb)<;>try exact kZ hb)|refine kV ?_)<;>(conv=>whnf))|refine kY ?_ ?_)
  all_goals (refine congrArg Value.bool ?_;simp;omega)
 | false =>
  have h5 : ¬ (0 ≤ p.x ∧ 0 ≤ p.y ∧ p.x < 8 * w.size ∧ p.y < 8 * w.size):=fun hx=>by rw [h.2 hx] at hW;cases hW
  refine aF Tryz.func154 27 ?_
  conv=>whnf
  repeat' (first|exact trivial|((first|(refine ⟨fun hb=>?_,fun hb=>?_⟩<;>(try simp only [nrm] at hb)<;>try exact kZ hb)|refine kV ?_)<;>(conv=>whnf))|refine kY ?_ ?_)
  all_goals (refine congrArg Value.bool ?_;simp;omega)
theorem uE {w : Wld} {k : Nat} (h : ry w k) (hlt : k < w.chunks.length) (h1 : ai (elt .chunk w.chunks k) = true) (h2 : (elt .chunk w.chunks k).x < w.size) (h3 : (elt .chunk w.chunks k).y < w.size) (h4 : ∀ j,j + 1 = k → aI (elt .chunk w.chunks j) < aI (elt .chunk w.chunks k)) : ry w (k + 1):=by
 refine ⟨hlt,fun i hi=>?_,fun i hi=>?_⟩
 ·rcases Nat.lt_succ_iff_lt_or_eq.1 hi with h'|rfl
  ·exact h.right i h'
  ·exact ⟨h1,h2,h3⟩
 ·rcases Nat.lt_or_ge (i + 1) k with h'|h'
  ·exact h.up i h'
  ·have e : i + 1 = k:=by omega
   subst e
   exact h4 i rfl
theorem uF {w : Wld} {k : Nat} (h : rz w k) (hlt : k < w.players.length) (h1 : a7 (elt .player w.players k) = true) (h2 : av w.size (elt .player w.players k).x (elt .player w.players k).y = true) (h4 : ∀ j,j + 1 = k → (elt .player w.players j).id < (elt .player w.players k).id) : rz w (k + 1):=by
 refine ⟨hlt,fun i hi=>?_,fun i hi=>?_⟩
 ·rcases Nat.lt_succ_iff_lt_or_eq.1 hi with h'|rfl
  ·exact h.right i h'
  ·exact ⟨h1,h2⟩
 ·rcases Nat.lt_or_ge (i + 1) k with h'|h'
  ·exact h.up i h'
  ·have e : i + 1 = k:=by omega
   subst e
   exact h4 i rfl
theorem fd (w : Wld) (hw : OkW w) : Api Tryz.prog 80 [az w] (bol (aO w)):=by
 have h1:=hw.nc
 have h2:=hw.np
 refine aF Tryz.func80 137 ?_
 conv=>whnf
 repeat' (first|exact trivial|((first|(refine ⟨fun hb=>?_,fun hb=>?_⟩<;>(try simp only [nrm] at hb)<;>try exact kZ hb)|refine kV ?_)<;>(conv=>whnf))|refine kY ?_ ?_)
 all_goals (try (rw [hJ (p:=True) (fun h=>by have:=h.size;have:=h.few;omega)];done))
 have hH : iy w = true:=by simp only [iy,Bool.and_eq_true,decide_eq_true_eq];omega
 refine ap.loopS ah (σ:=Nat) [1,3] (fun k=>[.ptr 2 0,i64 k]) (fun _=>[(2,.box (bA w))]) (fun k=>ry w k) (fun k=>w.chunks.length - k) 0 ⟨by omega,by omega,by omega⟩ ?_ ?_
 ·exact fD0
 ·intro k hs
  have hk:=hs.le
  by_cases hlt : k < w.chunks.length
  ·have hcr:=ez _ (hw.chunks _ (ao (t:=.chunk) hlt))
   cases hB : ai (elt .chunk w.chunks k) with
   | false =>
    rw [hJ (p:=True) (fun h=>by have:=(h.chunkAt hlt).1;rw [hB] at this;cases this)]
    rw [hB] at hcr
    exact fD0
   | true =>
    rw [hB] at hcr
    have hp:=cT hB
    have q0 : (elt .chunk w.chunks (k : Int).toNat).x = (elt .chunk w.chunks k).x:=rfl
    have q1 : (elt .chunk w.chunks (k : Int).toNat).y = (elt .chunk w.chunks k).y:=rfl
    cases k with
    | zero =>
     conv=>whnf
     repeat' (first|exact trivial|((first|(refine ⟨fun hb=>?_,fun hb=>?_⟩<;>(try simp only [nrm] at hb)<;>try exact kZ hb)|refine kV ?_)<;>(conv=>whnf))|refine kY ?_ ?_)
     all_goals first
      | (rw [hJ (p:=True) (fun h=>by have:=h.chunkAt hlt;omega)];done)
      | (refine .to (0 + 1) (uE hs hlt hB (by omega) (by omega) (by omega)) (by omega) ?_;(conv=>whnf))
      | trace_state
     repeat' (first|exact trivial|((first|(refine ⟨fun hb=>?_,fun hb=>?_⟩<;>(try simp only [nrm] at hb)<;>try exact kZ hb)|refine kV ?_)<;>(conv=>whnf))|refine kY ?_ ?_)
    | succ j =>
     have hpj:=cT (hs.right j (by omega)).1
     have e : (((j + 1 : Nat) : Int) - 1).toNat = j:=by omega
     have q2 : (elt .chunk w.chunks (((j + 1 : Nat) : Int) - 1).toNat).x = (elt .chunk w.chunks j).x:=by rw [e]
     have q3 : (elt .chunk w.chunks (((j + 1 : Nat) : Int) - 1).toNat).y = (elt .chunk w.chunks j).y:=by rw [e]
     conv=>whnf
     repeat' (first|exact trivial|((first|(refine ⟨fun hb=>?_,fun hb=>?_⟩<;>(try simp only [nrm] at hb)<;>try exact kZ hb)|refine kV ?_)<;>(conv=>whnf))|refine kY ?_ ?_)
     all_goals first
      | (rw [hJ (p:=True) (fun h=>by have:=h.chunkAt hlt;omega)];done)
      | (rw [hJ (p:=True) (fun h=>by have:=h.chunkUp hlt;unfold aI at this;omega)];done)
      | (have hk2 : aI (elt .chunk w.chunks j) < aI (elt .chunk w.chunks (j + 1)):=(by unfold aI;omega);refine .to (j + 1 + 1) (uE hs hlt hB (by omega) (by omega) (fun i hi=>by rw [show i = j by omega];exact hk2)) (by omega) ?_;(conv=>whnf))
      | trace_state
     repeat' (first|exact trivial|((first|(refine ⟨fun hb=>?_,fun hb=>?_⟩<;>(try simp only [nrm] at hb)<;>try exact kZ hb)|refine kV ?_)<;>(conv=>whnf))|refine kY ?_ ?_)
  ·obtain rfl : k = w.chunks.length:=by omega
   conv=>whnf
   repeat' (first|exact trivial|((first|(refine ⟨fun hb=>?_,fun hb=>?_⟩<;>(try simp only [nrm] at hb)<;>try exact kZ hb)|refine kV ?_)<;>(conv=>whnf))|refine kY ?_ ?_)
   have hsC:=hs
   clear hs
   have hsz : 1 ≤ w.size ∧ w.size ≤ 16:=by omega
   refine ap.loopS ah (σ:=Nat) [1,5] (fun k=>[.ptr 2 0,i64 k]) (fun _=>[(2,.box (bA w))]) (fun k=>rz w k) (fun k=>w.players.length - k) 0 ⟨by omega,by omega,by omega⟩ ?_ ?_
   ·exact fD0
   ·intro k hs
    have hk:=hs.le
    by_cases hlt : k < w.players.length
    ·have hpr:=nx _ (hw.players _ (ao (t:=.player) hlt))
     have hth:=qx w (elt .player w.players k) hsz
     cases hB : a7 (elt .player w.players k) with
     | false =>
      rw [hJ (p:=True) (fun h=>by have:=(h.playerAt hlt).1;rw [hB] at this;cases this)]
      rw [hB] at hpr
      exact fD0
     | true =>
      rw [hB] at hpr
      cases hI : av w.size (elt .player w.players k).x (elt .player w.players k).y with
      | false =>
       rw [hJ (p:=True) (fun h=>by have:=(h.playerAt hlt).2;rw [hI] at this;cases this)]
       rw [hI] at hth
       exact fD0
      | true =>
       rw [hI] at hth
       have q0 : (elt .player w.players (k : Int).toNat).id = (elt .player w.players k).id:=rfl
       cases k with
       | zero =>
        conv=>whnf
        repeat' (first|exact trivial|((first|(refine ⟨fun hb=>?_,fun hb=>?_⟩<;>(try simp only [nrm] at hb)<;>try exact kZ hb)|refine kV ?_)<;>(conv=>whnf))|refine kY ?_ ?_)
        refine .to (0 + 1) (uF hs hlt hB hI (by omega)) (by omega) ?_
        exact fD0
       | succ j =>
        have e : (((j + 1 : Nat) : Int) - 1).toNat = j:=by omega
        have q2 : (elt .player w.players (((j + 1 : Nat) : Int) - 1).toNat).id = (elt .player w.players j).id:=by rw [e]
        conv=>whnf
        repeat' (first|exact trivial|((first|(refine ⟨fun hb=>?_,fun hb=>?_⟩<;>(try simp only [nrm] at hb)<;>try exact kZ hb)|refine kV ?_)<;>(conv=>whnf))|refine kY ?_ ?_)
        all_goals first
         | (rw [hJ (p:=True) (fun h=>by have:=h.playerUp hlt;omega)];done)
         | (refine .to (j + 1 + 1) (uF hs hlt hB hI (fun i hi=>by rw [show i = j by omega];omega)) (by omega) ?_;(conv=>whnf))
         | trace_state
        repeat' (first|exact trivial|((first|(refine ⟨fun hb=>?_,fun hb=>?_⟩<;>(try simp only [nrm] at hb)<;>try exact kZ hb)|refine kV ?_)<;>(conv=>whnf))|refine kY ?_ ?_)
    ·obtain rfl : k = w.players.length:=by omega
     rw [D3 hH hsC hs]
     exact fD0
theorem db (w : Wld) (id : Int) (hw : OkW w) : Api Tryz.prog 82 [az w,i64 id] (.tup [aw (ag w id).1,bol (ag w id).2]):=by
 have hrt:=fd w hw
 have hcp:=fp w hw
 have hnp:=hw.np
 cases hR : aO w with
 | false =>
  rw [hR] at hrt
  have hs : ag w id = (kf,false):=by unfold ag;rw [if_pos hR]
  rw [hs]
  refine aF Tryz.func82 29 ?_
  exact fD0
 | true =>
  rw [hR] at hrt
  have hRW:=aK.1 hR
  have e : ag w id = match aH pid w.players id with|some p=>(p,true)|none=>(kf,false):=by
   unfold ag;rw [if_neg (by rw [hR];simp)];rfl
  rw [e]
  refine aF Tryz.func82 29 ?_
  conv=>whnf
  repeat' (first|exact trivial|((first|(refine ⟨fun hb=>?_,fun hb=>?_⟩<;>(try simp only [nrm] at hb)<;>try exact kZ hb)|refine kV ?_)<;>(conv=>whnf))|refine kY ?_ ?_)
  refine ap.loopS ah (σ:=Nat) [1,2,4,6] (fun i=>[i64 id,.ptr 4 0,.ptr 8 0,i64 i]) (fun _=>[(4,.box (bA w)),(8,.box [i64 0,i64 0,i64 0,iP,i64 0,iP,bol false])]) (fun i=>i ≤ w.players.length ∧ ∀ k < i,¬ (elt .player w.players k).id = id) (fun i=>w.players.length - i) 0 ⟨by omega,by omega⟩ ?_ ?_
  ·exact fD0
  ·rintro i ⟨hi,hno⟩
   by_cases hlt : i < w.players.length
   ·have hE : (elt .player w.players (i : Int).toNat).id = (elt .player w.players i).id:=rfl
    by_cases he : (elt .player w.players i).id = id
    ·have hg:=JU hRW.rp hlt
     rw [he] at hg
     rw [hg]
     exact fD0
    ·conv=>whnf
     repeat' (first|exact trivial|((first|(refine ⟨fun hb=>?_,fun hb=>?_⟩<;>(try simp only [nrm] at hb)<;>try exact kZ hb)|refine kV ?_)<;>(conv=>whnf))|refine kY ?_ ?_)
     refine .to (i + 1) ⟨hlt,fun k hk=>?_⟩ (by omega) ?_
     ·rcases Nat.lt_succ_iff_lt_or_eq.1 hk with h|rfl
      ·exact hno k h
      ·exact he
     exact fD0
   ·obtain rfl : i = w.players.length:=by omega
    rw [Gg hno]
    exact fD0
theorem qy (w : Wld) (x y : Int) (hw : OkW w) : Api Tryz.prog 170 [az w,i64 x,i64 y] (.tup [bq (ba w x y).1,bol (ba w x y).2]):=by
 have hrt:=fd w hw
 have hnc:=hw.nc
 cases hR : aO w with
 | false =>
  rw [hR] at hrt
  rw [lD (.inl hR)]
  refine aF Tryz.func170 66 ?_
  exact fD0
 | true =>
  rw [hR] at hrt
  by_cases hin : 0 ≤ x ∧ x < w.size ∧ 0 ≤ y ∧ y < w.size
  ·have hRW:=aK.1 hR
   have hs:=hRW.size
   rw [uA hRW hin.1 hin.2.1 hin.2.2.1 hin.2.2.2]
   have hgn:=qw w.seed x y hin.1 (by omega) hin.2.2.1 (by omega)
   refine aF Tryz.func170 66 ?_
   conv=>whnf
   repeat' (first|exact trivial|((first|(refine ⟨fun hb=>?_,fun hb=>?_⟩<;>(try simp only [nrm] at hb)<;>try exact kZ hb)|refine kV ?_)<;>(conv=>whnf))|refine kY ?_ ?_)
   refine ap.loopS ah (σ:=Nat) [1,2,3,6,8] (fun i=>[i64 x,i64 y,.ptr 6 0,.ptr 12 0,i64 i]) (fun _=>[(6,.box (bA w)),(12,.box (bB ⟨0,0,[],[],[]⟩))]) (fun i=>i ≤ w.chunks.length ∧ ∀ k < i,¬ ((elt .chunk w.chunks k).x = x ∧ (elt .chunk w.chunks k).y = y)) (fun i=>w.chunks.length - i) 0 ⟨by omega,by omega⟩ ?_ ?_
   ·exact fD0
   ·rintro i ⟨hi,hno⟩
    by_cases hlt : i < w.chunks.length
    ·have q0 : (elt .chunk w.chunks (i : Int).toNat).x = (elt .chunk w.chunks i).x:=rfl
     have q1 : (elt .chunk w.chunks (i : Int).toNat).y = (elt .chunk w.chunks i).y:=rfl
     by_cases he : (elt .chunk w.chunks i).x = x ∧ (elt .chunk w.chunks i).y = y
     ·have hg:=JT hRW.rc hRW.xy hlt
      rw [he.1,he.2] at hg
      rw [hg]
      obtain ⟨he1,he2⟩:=he
      have hcp:=fc (elt .chunk w.chunks i) (hw.fit _ (ao (t:=.chunk) hlt))
      conv=>whnf
      repeat' (first|exact trivial|((first|refine kL ?_|(refine ⟨fun hb=>?_,fun hb=>?_⟩<;>(try simp only [nrm] at hb)<;>try exact kZ hb)|refine kE hcp [(390001,150001),(390003,150003),(390005,150005)] rfl ?_|refine kF hcp [(390001,150001),(390003,150003),(390005,150005)] rfl ?_|refine kV ?_)<;>(conv=>whnf))|refine kY ?_ ?_)
      all_goals first|rfl|(simp;done)|omega|trace_state
     ·have he1 : (elt .chunk w.chunks i).x = x → ¬ (elt .chunk w.chunks i).y = y:=fun h1 h2=>he ⟨h1,h2⟩
      conv=>whnf
      repeat' (first|exact trivial|((first|(refine ⟨fun hb=>?_,fun hb=>?_⟩<;>(try simp only [nrm] at hb)<;>try exact kZ hb)|refine kV ?_)<;>(conv=>whnf))|refine kY ?_ ?_)
      all_goals
       refine .to (i + 1) ⟨hlt,fun k hk=>?_⟩ (by omega) ?_
       ·rcases Nat.lt_succ_iff_lt_or_eq.1 hk with h|rfl
        ·exact hno k h
        ·exact he
       exact fD0
    ·obtain rfl : i = w.chunks.length:=by omega
     rw [Gf hRW.xy hin.1 (by omega) hno]
     exact fD0
  ·rw [lD (.inr hin)]
   refine aF Tryz.func170 66 ?_
   exact fD0
open Go Go.RowKit Eng
theorem JX (w : Wld) (x y : Int) : atW w x y = if x < 0 ∨ y < 0 then (0,false) else if (ba w (x / 8) (y / 8)).2 = false then (0,false) else (elt .u8 (ba w (x / 8) (y / 8)).1.cells (y % 8 * 8 + x % 8).toNat,true):=by
 cases hR : aO w with
 | false =>
  have e:=lD (x:=x / 8) (y:=y / 8) (.inl hR)
  have l : atW w x y = (0,false):=by
   unfold atW
   rw [e]
   split
   ·rfl
   ·rw [if_pos rfl]
  rw [l,e]
  split
  ·rfl
  ·rw [if_pos rfl]
 | true =>
  have hRW:=aK.1 hR
  by_cases h : 0 ≤ x ∧ 0 ≤ y ∧ x < 8 * w.size ∧ y < 8 * w.size
  ·rw [FU hRW h,if_neg (by omega),uA hRW (by omega) (by omega) (by omega) (by omega),if_neg (by simp)]
  ·rw [Jw hRW h]
   by_cases h2 : x < 0 ∨ y < 0
   ·rw [if_pos h2]
   ·rw [if_neg h2,lD (.inr (by omega)),if_pos rfl]
theorem w4 (w : Wld) (x y : Int) (hw : OkW w) (hx1 : x ≤ 9223372036854775807) (hy1 : y ≤ 9223372036854775807) : Api Tryz.prog 87 [az w,i64 x,i64 y] (.tup [.lit (.int .u8 (atW w x y).1),bol (atW w x y).2]):=by
 have hch:=qy w (x / 8) (y / 8) hw
 rw [JX]
 by_cases h : x < 0 ∨ y < 0
 ·rw [if_pos h]
  refine aF Tryz.func87 34 ?_
  exact fA0
 ·rw [if_neg h]
  cases hC : (ba w (x / 8) (y / 8)).2 with
  | false =>
   rw [hC] at hch
   rw [if_pos rfl]
   generalize (ba w (x / 8) (y / 8)).1 = K at *
   refine aF Tryz.func87 34 ?_
   exact fA0
  | true =>
   rw [hC] at hch
   have hl:=ui hC
   rw [if_neg (by simp)]
   generalize (ba w (x / 8) (y / 8)).1 = K at *
   refine aF Tryz.func87 34 ?_
   exact fA0
theorem JY {s : aa} (h : aQ s) (h2 : bC s = false) : 0 ≤ s.item ∧ s.item ≤ 255 ∧ 0 ≤ s.n ∧ s.n ≤ 16:=by
 have:=z_ h2;exact ⟨h.1,h.2,this.1,this.2⟩
theorem Iu (a b : Int) : jw [a,b] = bF a.toNat ++ bF b.toNat:=by unfold jw;simp
theorem LA (a b c : Int) : jw [a,b,c] = bF a.toNat ++ (bF b.toNat ++ bF c.toNat):=by unfold jw;simp
theorem D7 (a : Int) : jw [a] = bF a.toNat:=by unfold jw;simp
theorem gf (z : Nat) : (bF z).length ≤ 10:=mX 9 z
theorem qz (c : Chunk) (hc : OkC c) (hR : ai c = true) : Api Tryz.prog 280 [bq c] (.tup [.vec .u8 (fZ c),i64 0]):=by
 have hrt:=ez c hc
 rw [hR] at hrt
 have hRC:=dK hR
 have hlen:=hRC.len
 have hH:=hRC.head
 simp only [dP,Bool.and_eq_true,decide_eq_true_eq] at hH
 obtain ⟨hx0,hy0,hx1,hy1,-,hh32⟩:=hH
 obtain ⟨hbl,hbx⟩:=kT _ _ _ hRC.go
 have lx:=gf c.x.toNat
 have ly:=gf c.y.toNat
 have e1:=Bh c.x hx0 (by omega)
 have e2:=gx (bF c.x.toNat) _ c.y rfl hy0 (by omega) (by omega)
 have hB : fZ c = bF c.x.toNat ++ bF c.y.toNat ++ c.cells ++ bF (c.heaps.length : Int).toNat ++ c.heaps.flatMap o8 ++ c.boxes.flatMap vq:=by
  unfold fZ;rw [Iu,D7]
 rw [← List.length_append] at e2
 have lP : (bF c.x.toNat ++ bF c.y.toNat).length ≤ 20:=by rw [List.length_append];omega
 rw [hB]
 generalize hX : bF c.x.toNat = X at *
 generalize hP : X ++ bF c.y.toNat = P at *
 refine aF Tryz.func280 112 ?_
 conv=>whnf
 repeat' (first|exact trivial|((first|refine kL ?_|(refine ⟨fun hb=>?_,fun hb=>?_⟩<;>(try simp only [nrm] at hb)<;>try exact kZ hb)|refine kE e1 [(390001,150101)] rfl ?_|refine kF e1 [(390001,150101)] rfl ?_|refine kE e2 [(1,150101),(390001,150103)] rfl ?_|refine kF e2 [(1,150101),(390001,150103)] rfl ?_|refine kV ?_)<;>(conv=>whnf))|refine kY ?_ ?_)
 refine ap.loopS ah (σ:=Nat) [1,4,5] (fun k=>[.ptr 2 0,.own .u8 150103 0 (P.length + k) none,i64 k]) (fun k=>[(2,.box (bB c)),(150103,.row .u8 (P ++ c.cells.take k))]) (fun k=>k ≤ 64) (fun k=>64 - k) 0 (by omega) ?_ ?_
 ·exact fD0
 ·intro k hk
  by_cases hlt : k < 64
  ·have hn:=H9 P c.cells k (by omega)
   conv=>whnf
   repeat' (first|exact trivial|((first|(refine ⟨fun hb=>?_,fun hb=>?_⟩<;>(try simp only [nrm] at hb)<;>try exact kZ hb)|refine kV ?_)<;>(conv=>whnf))|refine kY ?_ ?_)
   refine .to (k + 1) hlt (by omega) ?_
   exact fD0
  ·obtain rfl : k = 64:=by omega
   have hcl : c.cells.take 64 = c.cells:=List.take_of_length_le (by omega)
   rw [hcl]
   have lQ : (P ++ c.cells).length ≤ 84:=by rw [List.length_append];omega
   have lQ2 : P.length + 64 = (P ++ c.cells).length:=by rw [List.length_append];omega
   rw [lQ2]
   have lh:=gf (c.heaps.length : Int).toNat
   have e3:=gx (P ++ c.cells) _ (c.heaps.length : Int) rfl (by omega) (by omega) (by omega)
   rw [← List.length_append] at e3
   have lS : (P ++ c.cells ++ bF (c.heaps.length : Int).toNat).length ≤ 94:=by rw [List.length_append];omega
   generalize P ++ c.cells ++ bF (c.heaps.length : Int).toNat = S at *
   generalize P ++ c.cells = Q at *
   conv=>whnf
   repeat' (first|exact trivial|((first|refine kL ?_|(refine ⟨fun hb=>?_,fun hb=>?_⟩<;>(try simp only [nrm] at hb)<;>try exact kZ hb)|refine kE e3 [(1,150103),(390001,150101)] rfl ?_|refine kF e3 [(1,150103),(390001,150101)] rfl ?_|refine kV ?_)<;>(conv=>whnf))|refine kY ?_ ?_)
   refine ap.loopS ah (σ:=Nat × List Int) [1,4,6] (fun (k,T)=>[.ptr 2 0,.own .u8 150101 0 T.length none,i64 k]) (fun (_,T)=>[(2,.box (bB c)),(150101,.row .u8 T)]) (fun (k,T)=>k ≤ c.heaps.length ∧ T = S ++ (c.heaps.take k).flatMap o8 ∧ T.length ≤ 94 + k * 30) (fun (k,_)=>c.heaps.length - k) (0,S) ⟨by omega,by simp,by omega⟩ ?_ ?_
   ·exact fD0
   ·rintro ⟨k,T⟩ ⟨hk,hT,hTl⟩
    try dsimp only at hk hT hTl
    by_cases hlt : k < c.heaps.length
    ·obtain ⟨ha1,ha2,ha3,ha4⟩:=H8 (qq hRC.heaps (ao (t:=.heap) hlt))
     obtain ⟨hb1,hb2⟩ : 0 ≤ (elt .heap c.heaps k).slot.item ∧ (elt .heap c.heaps k).slot.item ≤ 255:=hc.heaps _ (ao (t:=.heap) hlt)
     have l1:=gf (elt .heap c.heaps k).cell.toNat
     have l2:=gf (elt .heap c.heaps k).slot.item.toNat
     have l3:=gf (elt .heap c.heaps k).slot.n.toNat
     have q0 : (elt .heap c.heaps (k : Int).toNat).cell = (elt .heap c.heaps k).cell:=rfl
     have q1 : (elt .heap c.heaps (k : Int).toNat).slot.item = (elt .heap c.heaps k).slot.item:=rfl
     have q2 : (elt .heap c.heaps (k : Int).toNat).slot.n = (elt .heap c.heaps k).slot.n:=rfl
     have u1:=gx T _ (elt .heap c.heaps k).cell rfl ha1 (by omega) (by omega)
     have u2:=gx (T ++ bF (elt .heap c.heaps k).cell.toNat) _ (elt .heap c.heaps k).slot.item (by rw [List.length_append]) hb1 (by omega) (by rw [List.length_append];omega)
     have u3:=gx (T ++ bF (elt .heap c.heaps k).cell.toNat ++ bF (elt .heap c.heaps k).slot.item.toNat) _ (elt .heap c.heaps k).slot.n (by rw [List.length_append,List.length_append]) (by omega) (by omega) (by rw [List.length_append,List.length_append];omega)
     have hT2 : T ++ bF (elt .heap c.heaps k).cell.toNat ++ bF (elt .heap c.heaps k).slot.item.toNat ++ bF (elt .heap c.heaps k).slot.n.toNat = S ++ (c.heaps.take (k + 1)).flatMap o8:=by
      rw [mw (t:=.heap) o8 hlt,hT]
      unfold o8
      rw [LA]
      simp only [List.append_assoc]
     have hT3 : (T ++ bF (elt .heap c.heaps k).cell.toNat ++ bF (elt .heap c.heaps k).slot.item.toNat ++ bF (elt .heap c.heaps k).slot.n.toNat).length ≤ 94 + (k + 1) * 30:=by
      simp only [List.length_append];omega
     conv=>whnf
     repeat' (first|exact trivial|((first|refine kL ?_|(refine ⟨fun hb=>?_,fun hb=>?_⟩<;>(try simp only [nrm] at hb)<;>try exact kZ hb)|refine kE u1 [(1,150101),(390001,150103)] rfl ?_|refine kF u1 [(1,150101),(390001,150103)] rfl ?_|refine kE u2 [(1,150103),(390001,150105)] rfl ?_|refine kF u2 [(1,150103),(390001,150105)] rfl ?_|refine kE u3 [(1,150105),(390001,150101)] rfl ?_|refine kF u3 [(1,150105),(390001,150101)] rfl ?_|refine kV ?_)<;>(conv=>whnf))|refine kY ?_ ?_)
     refine .to (k + 1,_) ⟨hlt,hT2,hT3⟩ (by first|omega|(dsimp only;omega)) ?_
     conv=>whnf
     repeat' (first|exact trivial|((first|(refine ⟨fun hb=>?_,fun hb=>?_⟩<;>(try simp only [nrm] at hb)<;>try exact kZ hb)|refine kV ?_)<;>(conv=>whnf))|refine kY ?_ ?_)
     all_goals first|rfl|(simp only [List.length_append];done)|(simp only [List.length_append,List.take_length];done)|(refine List.take_of_length_le ?_;simp only [List.length_append];omega)|trace_state
    ·obtain rfl : k = c.heaps.length:=by omega
     rw [List.take_length] at hT
     rw [← hT]
     conv=>whnf
     repeat' (first|exact trivial|((first|(refine ⟨fun hb=>?_,fun hb=>?_⟩<;>(try simp only [nrm] at hb)<;>try exact kZ hb)|refine kV ?_)<;>(conv=>whnf))|refine kY ?_ ?_)
     refine ap.loopS ah (σ:=Nat × List Int) [1,4,7] (fun (k,U)=>[.ptr 2 0,.own .u8 150101 0 U.length none,i64 k]) (fun (_,U)=>[(2,.box (bB c)),(150101,.row .u8 U)]) (fun (k,U)=>k ≤ c.boxes.length ∧ U = T ++ (c.boxes.take k).flatMap vq ∧ U.length ≤ 1060 + k * 120) (fun (k,_)=>c.boxes.length - k) (0,T) ⟨by omega,by simp,by omega⟩ ?_ ?_
     ·exact fD0
     ·rintro ⟨k,U⟩ ⟨hk,hU,hUl⟩
      try dsimp only at hk hU hUl
      by_cases hlt : k < c.boxes.length
      ·obtain ⟨hb6,hbo⟩:=hbx _ (ao (t:=.box) hlt)
       have hok:=hc.boxes _ (ao (t:=.box) hlt)
       conv=>whnf
       repeat' (first|exact trivial|((first|(refine ⟨fun hb=>?_,fun hb=>?_⟩<;>(try simp only [nrm] at hb)<;>try exact kZ hb)|refine kV ?_)<;>(conv=>whnf))|refine kY ?_ ?_)
       refine ap.loopS ah (σ:=Nat × List Int) [1,4,7,8] (fun (j,V)=>[.ptr 2 0,.own .u8 150101 0 V.length none,i64 k,i64 j]) (fun (_,V)=>[(2,.box (bB c)),(150101,.row .u8 V)]) (fun (j,V)=>j ≤ 6 ∧ V = U ++ ((elt .box c.boxes k).bag.take j).flatMap uw ∧ V.length ≤ U.length + j * 20) (fun (j,_)=>6 - j) (0,U) ⟨by omega,by simp,by omega⟩ ?_ ?_
       ·exact fD0
       ·rintro ⟨j,V⟩ ⟨hj,hV,hVl⟩
        try dsimp only at hj hV hVl
        by_cases hjl : j < 6
        ·have hjl2 : j < (elt .box c.boxes k).bag.length:=by omega
         have hm:=ao (t:=.slot) hjl2
         obtain ⟨s1,s2,s3,s4⟩:=JY (hok.1 _ hm) (qq (by simpa [an] using hbo) hm)
         have l1:=gf (elt .slot (elt .box c.boxes k).bag j).item.toNat
         have l2:=gf (elt .slot (elt .box c.boxes k).bag j).n.toNat
         have q1 : (elt .slot (elt .box c.boxes (k : Int).toNat).bag (j : Int).toNat).item = (elt .slot (elt .box c.boxes k).bag j).item:=rfl
         have q2 : (elt .slot (elt .box c.boxes (k : Int).toNat).bag (j : Int).toNat).n = (elt .slot (elt .box c.boxes k).bag j).n:=rfl
         have q3 : (elt .box c.boxes (k : Int).toNat).bag.length = (elt .box c.boxes k).bag.length:=rfl
         have u1:=gx V _ (elt .slot (elt .box c.boxes k).bag j).item rfl s1 (by omega) (by omega)
         have u2:=gx (V ++ bF (elt .slot (elt .box c.boxes k).bag j).item.toNat) _ (elt .slot (elt .box c.boxes k).bag j).n (by rw [List.length_append]) s3 (by omega) (by rw [List.length_append];omega)
         have hT2 : V ++ bF (elt .slot (elt .box c.boxes k).bag j).item.toNat ++ bF (elt .slot (elt .box c.boxes k).bag j).n.toNat = U ++ ((elt .box c.boxes k).bag.take (j + 1)).flatMap uw:=by
          rw [mw (t:=.slot) uw hjl2,hV]
          unfold uw
          rw [Iu]
          simp only [List.append_assoc]
         have hT3 : (V ++ bF (elt .slot (elt .box c.boxes k).bag j).item.toNat ++ bF (elt .slot (elt .box c.boxes k).bag j).n.toNat).length ≤ U.length + (j + 1) * 20:=by
          simp only [List.length_append];omega
         conv=>whnf
         repeat' (first|exact trivial|((first|refine kL ?_|(refine ⟨fun hb=>?_,fun hb=>?_⟩<;>(try simp only [nrm] at hb)<;>try exact kZ hb)|refine kE u1 [(1,150101),(390001,150103)] rfl ?_|refine kF u1 [(1,150101),(390001,150103)] rfl ?_|refine kE u2 [(1,150103),(390001,150101)] rfl ?_|refine kF u2 [(1,150103),(390001,150101)] rfl ?_|refine kV ?_)<;>(conv=>whnf))|refine kY ?_ ?_)
         refine .to (j + 1,_) ⟨hjl,hT2,hT3⟩ (by first|omega|(dsimp only;omega)) ?_
         conv=>whnf
         repeat' (first|exact trivial|((first|(refine ⟨fun hb=>?_,fun hb=>?_⟩<;>(try simp only [nrm] at hb)<;>try exact kZ hb)|refine kV ?_)<;>(conv=>whnf))|refine kY ?_ ?_)
         all_goals first|rfl|(simp only [List.length_append];done)|(simp only [List.length_append,List.take_length];done)|(refine List.take_of_length_le ?_;simp only [List.length_append];omega)|trace_state
        ·obtain rfl : j = 6:=by omega
         rw [List.take_of_length_le (by omega)] at hV
         have hV2 : V = T ++ (c.boxes.take (k + 1)).flatMap vq:=by rw [mw (t:=.box) vq hlt,hV,hU,List.append_assoc];rfl
         conv=>whnf
         repeat' (first|exact trivial|((first|(refine ⟨fun hb=>?_,fun hb=>?_⟩<;>(try simp only [nrm] at hb)<;>try exact kZ hb)|refine kV ?_)<;>(conv=>whnf))|refine kY ?_ ?_)
         refine .to (k + 1,V) ⟨hlt,hV2,by first|omega|(dsimp only;omega)⟩ (by first|omega|(dsimp only;omega)) ?_
         exact fD0
      ·obtain rfl : k = c.boxes.length:=by omega
       rw [List.take_length] at hU
       rw [← hU]
       exact fD0
theorem w5 {z : Int} (h : 0 ≤ z) (h2 : z < 128) : bF z.toNat = [z]:=by
 unfold bF
 simp only [gw]
 rw [if_pos (by omega)]
 congr 1
 omega
theorem LB {s x y : Int} {i : Int} (h : i ∈ gl s x y 64) : i ≠ 9:=by
 unfold gl at h
 obtain ⟨j,_,rfl⟩:=List.mem_map.1 h
 exact (sT _ _ _).2
theorem D8 {seed : Int} {c : Chunk} (h : ai c = true) : eqL (fZ c) (fZ (eh seed c.x c.y)) = dy seed c:=by
 have hh:=fJ h
 have hl:=eu h
 have hgl:=dL seed c.x c.y 64
 unfold eqL dy eqI
 rw [← Bool.decide_and,decide_eq_decide]
 have e0 : fZ (eh seed c.x c.y) = jw [c.x,c.y] ++ (gl seed c.x c.y 64 ++ [0]):=by
  unfold fZ eh
  simp only [List.length_nil,List.flatMap_nil,List.append_nil]
  rw [D7,show ((0 : Nat) : Int).toNat = (0 : Int).toNat by rfl,w5 (by omega) (by omega),List.append_assoc]
 have e1 : fZ c = jw [c.x,c.y] ++ (c.cells ++ ((c.heaps.length : Int) :: (c.heaps.flatMap o8 ++ c.boxes.flatMap vq))):=by
  unfold fZ
  rw [D7,w5 (by omega) (by omega)]
  simp only [List.append_assoc,List.singleton_append,List.cons_append,List.nil_append]
 rw [e0,e1,List.append_cancel_left_eq]
 constructor
 ·intro e
  obtain ⟨a1,a2⟩:=List.append_inj e (by rw [hl,hgl])
  exact ⟨by have:=(List.cons.inj a2).1;omega,a1⟩
 ·rintro ⟨a1,a2⟩
  have hn : c.heaps = []:=List.eq_nil_of_length_eq_zero (by omega)
  have hf:=cS h
  have hb : c.boxes = []:=by
   cases hbx : c.boxes with
   | nil=>rfl
   | cons b r =>
    exfalso
    have hm : b ∈ c.boxes:=by rw [hbx];simp
    obtain ⟨b1,b2⟩:=(gB _ _ _ (dK h).go).2 b hm
    have hg:=kc (dK h).rises hm
    have h9:=(wm h (a:=b.cell) (by omega) (by omega)).2 (by rw [hg];rfl)
    have hmem:=ao (t:=.u8) (l:=c.cells) (i:=b.cell.toNat) (by omega)
    rw [h9,a2] at hmem
    exact LB hmem rfl
  rw [hn,hb,a2];rfl
theorem Aj : ∀ (f n : Nat),n < 128 ^ (f + 1) → jV (gw f n)
 | 0,n,h=>by intro i hi;unfold gw at hi;simp at hi h;omega
 | f + 1,n,h=>by
  intro i hi
  unfold gw at hi
  split at hi
  ·simp at hi;omega
  ·rcases List.mem_cons.1 hi with rfl|hi
   ·omega
   ·exact Aj f _ (by rw [Nat.pow_succ] at h;omega) i hi
theorem JZ (n : Nat) (h : n < 18446744073709551616) : jV (bF n):=Aj 9 n (by omega)
theorem uG (l : List Int) (h : ∀ z ∈ l,z < 18446744073709551616) : jV (jw l):=by
 intro i hi
 unfold jw at hi
 rw [List.mem_flatMap] at hi
 obtain ⟨z,hm,hz⟩:=hi
 exact JZ _ (by have:=h z hm;omega) i hz
theorem uH {a b : List Int} (ha : jV a) (hb : jV b) : jV (a ++ b):=fun i hi=>(List.mem_append.1 hi).elim (ha i) (hb i)
theorem vu {α : Type} {f : α → List Int} {l : List α} (h : ∀ a ∈ l,jV (f a)) : jV (l.flatMap f):=fun i hi=>by
 obtain ⟨a,ha,h2⟩:=List.mem_flatMap.1 hi
 exact h a ha i h2
theorem w6 {c : Chunk} (h : ai c = true) : jV (fZ c):=by
 have hp:=cT h
 have hh:=fJ h
 have hC:=aS h
 unfold fZ
 refine uH (uH (uH (uH (uG _ ?_) hC.cells) (uG _ ?_)) (vu fun x hx=>uG _ ?_)) (vu fun b hb=>vu fun s hs=>uG _ ?_)
 ·intro z hz;simp at hz;omega
 ·intro z hz;simp at hz;omega
 ·intro z hz
  obtain ⟨k1,k2,k3⟩:=ll h hx
  have k4:=(hC.heaps x hx).2
  have k5:=(gZ k1).2.2
  simp at hz
  rcases hz with rfl|rfl|rfl<;>omega
 ·intro z hz
  have k1:=((hC.boxes b hb).1 s hs).2
  have k2:=z_ (qq (by simpa [an] using (i7 h hb).2) hs)
  simp at hz
  rcases hz with rfl|rfl<;>omega
theorem Bi (c : Chunk) (seed x y : Int) (h : ai c = true) (hx : c.x = x) (hy : c.y = y) : Api Tryz.prog 262 [bq c,bq (eh seed x y)] (bol (dy seed c)):=by
 subst hx hy
 have hp:=cT h
 have hg : ai (eh seed c.x c.y) = true:=wb (by omega) (by omega)
 have h1:=qz c (aS h) h
 have h2:=qz _ (aS hg) hg
 have e:=D8 (seed:=seed) h
 rw [← H7 (w6 h) (w6 hg)] at e
 generalize fZ c = A at *
 generalize fZ (eh seed c.x c.y) = B at *
 generalize eh seed c.x c.y = G at *
 refine aF Tryz.func262 22 ?_
 ((try with_reducible refine ab fun N hN hE hT=>?_);(conv=>whnf))
 repeat' (first|exact trivial|((first|((first|apply hT|apply hE|apply hN);clear hN hE hT)|(refine ⟨fun hb=>?_,fun hb=>?_⟩<;>(try simp only [nrm] at hb)<;>try exact kZ hb)|refine kV ?_)<;>((try with_reducible refine ab fun N hN hE hT=>?_);(conv=>whnf)))|refine kY ?_ ?_)
 all_goals first|exact congrArg Value.bool e|trace_state
open Go Go.RowKit Eng
theorem Ig {w : Wld} {c : Chunk} (hR : RW w) (hB : ai c = true) {x y : Int} (h0 : 0 ≤ x) (h1 : x < 16) : ltK aI (16 * y + (x + 1)) (d5 w.seed w.chunks c) = ltK aI (16 * y + x) (d5 w.seed w.chunks c) ++ (if x = c.x ∧ y = c.y then (if dy w.seed c = true then [] else [c]) else w.chunks.filter (atB x y)):=by
 have hc:=cT hB
 rw [← JR (seed:=w.seed) hR.rc hR.xy ⟨hc.1,by omega⟩ h0 h1,Ad (fun b hb=>by rcases jT hb with rfl|hb;exact ⟨hc.1,by omega⟩;exact hR.xy b hb) h0 h1,← Int.add_assoc]
 exact tb (nw hR.rc)
theorem J0 {α : Type} {key : α → Int} {t : Int} {l : List α} : (ltK key t l).length ≤ l.length:=List.length_filter_le _ _
theorem D9 (w : Wld) (c : Chunk) (hw : OkW w) (hc : OkC c) (hf : fH c) : Api Tryz.prog 223 [az w,bq c] (.tup [az (br w c).1,i64 (br w c).2]):=by
 have hrt:=fd w hw
 have hcp:=fp w hw
 have hcr:=ez c hc
 cases hR : aO w with
 | false =>
  rw [hR] at hrt
  have hs : br w c = (w,113):=by unfold br;rw [if_pos hR]
  rw [hs]
  refine aF Tryz.func223 104 ?_
  exact fA0
 | true =>
  rw [hR] at hrt
  cases hB : ai c with
  | false =>
   rw [hB] at hcr
   have hs : br w c = (w,101):=by unfold br;rw [if_neg (by rw [hR];simp),if_pos (.inr hB)]
   rw [hs]
   refine aF Tryz.func223 104 ?_
   exact fA0
  | true =>
   rw [hB] at hcr
   by_cases hM : max c.x c.y < w.size
   ·have hRW:=aK.1 hR
    have hsz:=hRW.size
    have hfew:=hRW.few
    have hcx:=cT hB
    have hst:=fun x y (h0 : 0 ≤ x) (h1 : x < 16)=>Ig (x:=x) (y:=y) hRW hB h0 h1
    have hTl:=@sd w.seed w.chunks c
    have hTx : ∀ b ∈ d5 w.seed w.chunks c,0 ≤ b.x ∧ b.x < w.size ∧ 0 ≤ b.y ∧ b.y < w.size:=fun b hb=>by
     rcases jT hb with rfl|hb
     ·omega
     ·have h1:=hRW.chunks b hb
      have h2:=cT h1.1
      omega
    have hcpc:=fc c hf
    rw [nK hRW hB hM]
    unfold c_
    dsimp only
    generalize d5 w.seed w.chunks c = T at *
    refine aF Tryz.func223 104 ?_
    ((try with_reducible refine ab fun N hN hE hT=>?_);(conv=>whnf))
    repeat' (first|exact trivial|((first|((first|apply hT|apply hE|apply hN);clear hN hE hT)|(refine ⟨fun hb=>?_,fun hb=>?_⟩<;>(try simp only [nrm] at hb)<;>try exact kZ hb)|refine kV ?_)<;>((try with_reducible refine ab fun N hN hE hT=>?_);(conv=>whnf)))|refine kY ?_ ?_)
    refine ap.loopQ ah (σ:=Nat × List Chunk) [3,4,6,7,8] (fun (y,L)=>[.ptr 6 0,.ptr 8 0,.ptr 12 0,.own .chunk 150101 0 L.length none,i64 y]) (fun (_,L)=>[(6,.box (bB c)),(8,.box eX),(12,.box (bA w)),(150101,.row .chunk L)])
     (fun (y,L)=>(y : Int) ≤ w.size ∧ L = ltK aI (16 * y) T ∧ L.length ≤ 300) (fun (y,_)=>w.size.toNat - y) (0,[]) ⟨by first|omega|(dsimp only;omega),(Ck fun b hb=>by have:=hTx b hb;unfold aI;omega).symm,by simp⟩ ?_ ?_
    ·exact fB0
    ·rintro ⟨y,L⟩ ⟨hy,hL,hLl⟩ N hN hE hT
     try dsimp only at hy hL hLl
     by_cases hyl : (y : Int) < w.size
     ·conv=>whnf
      repeat' (first|exact trivial|((first|((first|apply hT|apply hE|apply hN);clear hN hE hT)|(refine ⟨fun hb=>?_,fun hb=>?_⟩<;>(try simp only [nrm] at hb)<;>try exact kZ hb)|refine kV ?_)<;>((try with_reducible refine ab fun N hN hE hT=>?_);(conv=>whnf)))|refine kY ?_ ?_)
      refine ap.loopQ ah (σ:=Nat × List Chunk) [3,4,6,7,8,9] (fun (x,L)=>[.ptr 6 0,.ptr 8 0,.ptr 12 0,.own .chunk 150101 0 L.length none,i64 y,i64 x]) (fun (_,L)=>[(6,.box (bB c)),(8,.box eX),(12,.box (bA w)),(150101,.row .chunk L)])
       (fun (x,L)=>(x : Int) ≤ w.size ∧ L = ltK aI (16 * y + x) T ∧ L.length ≤ 300) (fun (x,_)=>w.size.toNat - x) (0,L) ⟨by first|omega|(dsimp only;omega),by (try dsimp only);rw [hL];congr 1,hLl⟩ ?_ ?_
      ·exact fB0
      ·rintro ⟨x,L⟩ ⟨hx,hL,hLl⟩ N hN hE hT
       try dsimp only at hx hL hLl
       by_cases hxl : (x : Int) < w.size
       ·have hs1:=hst x y (by omega) (by omega)
        rw [← hL] at hs1
        have hll:=@J0 _ aI (16 * y + ((x : Int) + 1)) T
        by_cases he : (x : Int) = c.x ∧ (y : Int) = c.y
        ·rw [if_pos he] at hs1
         obtain ⟨he1,he2⟩:=he
         have hsm:=Bi c w.seed x y hB he1.symm he2.symm
         have hgn:=qw w.seed x y (by omega) (by omega) (by omega) (by omega)
         generalize eh w.seed x y = G at *
         cases hP : dy w.seed c with
         | true =>
          rw [hP] at hsm
          rw [if_pos hP,List.append_nil] at hs1
          conv=>whnf
          repeat' (first|exact trivial|((first|((first|apply hT|apply hE|apply hN);clear hN hE hT)|refine kL ?_|(refine ⟨fun hb=>?_,fun hb=>?_⟩<;>(try simp only [nrm] at hb)<;>try exact kZ hb)|refine kE hcpc [(390001,150001),(390003,150003),(390005,150005)] rfl ?_|refine kF hcpc [(390001,150001),(390003,150003),(390005,150005)] rfl ?_|refine kV ?_)<;>((try with_reducible refine ab fun N hN hE hT=>?_);(conv=>whnf)))|refine kY ?_ ?_)
          refine .to (x + 1,L) ⟨by first|omega|(dsimp only;omega),by (try dsimp only);rw [← hs1];rfl,hLl⟩ (by first|omega|(dsimp only;omega)) ?_
          exact fB0
         | false =>
          rw [hP] at hsm
          rw [if_neg (by rw [hP];simp)] at hs1
          conv=>whnf
          repeat' (first|exact trivial|((first|((first|apply hT|apply hE|apply hN);clear hN hE hT)|refine kL ?_|(refine ⟨fun hb=>?_,fun hb=>?_⟩<;>(try simp only [nrm] at hb)<;>try exact kZ hb)|refine kE hcpc [(390001,150001),(390003,150003),(390005,150005)] rfl ?_|refine kF hcpc [(390001,150001),(390003,150003),(390005,150005)] rfl ?_|refine kV ?_)<;>((try with_reducible refine ab fun N hN hE hT=>?_);(conv=>whnf)))|refine kY ?_ ?_)
          refine .to (x + 1,L ++ [c]) ⟨by first|omega|(dsimp only;omega),by (try dsimp only);rw [← hs1];rfl,by rw [← hs1];omega⟩ (by first|omega|(dsimp only;omega)) ?_
          conv=>whnf
          repeat' (first|exact trivial|((first|((first|apply hT|apply hE|apply hN);clear hN hE hT)|(refine ⟨fun hb=>?_,fun hb=>?_⟩<;>(try simp only [nrm] at hb)<;>try exact kZ hb)|refine kV ?_)<;>((try with_reducible refine ab fun N hN hE hT=>?_);(conv=>whnf)))|refine kY ?_ ?_)
          all_goals first|rfl|(simp;done)|(refine eG ?_;simp only [List.drop_zero,List.take_length];done)|trace_state
        ·rw [if_neg he] at hs1
         have he1 : (x : Int) = c.x → ¬ (y : Int) = c.y:=fun h1 h2=>he ⟨h1,h2⟩
         conv=>whnf
         repeat' (first|exact trivial|((first|((first|apply hT|apply hE|apply hN);clear hN hE hT)|(refine ⟨fun hb=>?_,fun hb=>?_⟩<;>(try simp only [nrm] at hb)<;>try exact kZ hb)|refine kV ?_)<;>((try with_reducible refine ab fun N hN hE hT=>?_);(conv=>whnf)))|refine kY ?_ ?_)
         all_goals
          refine ap.loopQ ah (σ:=Nat × List Chunk) [3,4,6,7,8,9,10] (fun (i,M)=>[.ptr 6 0,.ptr 8 0,.ptr 12 0,.own .chunk 150101 0 M.length none,i64 y,i64 x,i64 i]) (fun (_,M)=>[(6,.box (bB c)),(8,.box eX),(12,.box (bA w)),(150101,.row .chunk M)])
           (fun (i,M)=>i ≤ w.chunks.length ∧ M = L ++ (w.chunks.take i).filter (atB x y) ∧ M.length ≤ 300 + i) (fun (i,_)=>w.chunks.length - i) (0,L) ⟨by omega,by simp,by omega⟩ ?_ ?_
          ·exact fB0
          ·rintro ⟨i,M⟩ ⟨hi,hM2,hMl⟩ N hN hE hT
           try dsimp only at hi hM2 hMl
           by_cases hil : i < w.chunks.length
           ·have ha:=JS (x:=x) (y:=y) hil
            have q0 : (elt .chunk w.chunks (i : Int).toNat).x = (elt .chunk w.chunks i).x:=rfl
            have q1 : (elt .chunk w.chunks (i : Int).toNat).y = (elt .chunk w.chunks i).y:=rfl
            by_cases hk : (elt .chunk w.chunks i).x = x ∧ (elt .chunk w.chunks i).y = y
            ·rw [if_pos hk] at ha
             obtain ⟨hk1,hk2⟩:=hk
             conv=>whnf
             repeat' (first|exact trivial|((first|((first|apply hT|apply hE|apply hN);clear hN hE hT)|(refine ⟨fun hb=>?_,fun hb=>?_⟩<;>(try simp only [nrm] at hb)<;>try exact kZ hb)|refine kV ?_)<;>((try with_reducible refine ab fun N hN hE hT=>?_);(conv=>whnf)))|refine kY ?_ ?_)
             refine .to (i + 1,M ++ [elt .chunk w.chunks i]) ⟨hil,by (try dsimp only);rw [ha,hM2,List.append_assoc],by simp;omega⟩ (by first|omega|(dsimp only;omega)) ?_
             exact fB0
            ·rw [if_neg hk,List.append_nil] at ha
             have hk1 : (elt .chunk w.chunks i).x = x → ¬ (elt .chunk w.chunks i).y = y:=fun h1 h2=>hk ⟨h1,h2⟩
             conv=>whnf
             repeat' (first|exact trivial|((first|((first|apply hT|apply hE|apply hN);clear hN hE hT)|(refine ⟨fun hb=>?_,fun hb=>?_⟩<;>(try simp only [nrm] at hb)<;>try exact kZ hb)|refine kV ?_)<;>((try with_reducible refine ab fun N hN hE hT=>?_);(conv=>whnf)))|refine kY ?_ ?_)
             all_goals
              refine .to (i + 1,M) ⟨hil,by (try dsimp only);rw [ha,hM2],by first|omega|(dsimp only;omega)⟩ (by first|omega|(dsimp only;omega)) ?_
              exact fB0
           ·obtain rfl : i = w.chunks.length:=by omega
            rw [List.take_length,← hs1] at hM2
            conv=>whnf
            repeat' (first|exact trivial|((first|((first|apply hT|apply hE|apply hN);clear hN hE hT)|(refine ⟨fun hb=>?_,fun hb=>?_⟩<;>(try simp only [nrm] at hb)<;>try exact kZ hb)|refine kV ?_)<;>((try with_reducible refine ab fun N hN hE hT=>?_);(conv=>whnf)))|refine kY ?_ ?_)
            refine .to (x + 1,M) ⟨by first|omega|(dsimp only;omega),by (try dsimp only);rw [hM2];rfl,by rw [hM2];omega⟩ (by first|omega|(dsimp only;omega)) ?_
            exact fB0
       ·have hxe : (x : Int) = w.size:=by omega
        conv=>whnf
        repeat' (first|exact trivial|((first|((first|apply hT|apply hE|apply hN);clear hN hE hT)|(refine ⟨fun hb=>?_,fun hb=>?_⟩<;>(try simp only [nrm] at hb)<;>try exact kZ hb)|refine kV ?_)<;>((try with_reducible refine ab fun N hN hE hT=>?_);(conv=>whnf)))|refine kY ?_ ?_)
        refine .to (y + 1,L) ⟨by first|omega|(dsimp only;omega),by (try dsimp only);rw [hL,hxe,JQ (fun b hb=>by have:=hTx b hb;omega) (by omega)];rfl,hLl⟩ (by first|omega|(dsimp only;omega)) ?_
        exact fB0
     ·have hye : (y : Int) = w.size:=by omega
      have hL2 : L = T:=by rw [hL,hye];exact Cl fun b hb=>by have:=hTx b hb;unfold aI;omega
      conv=>whnf
      repeat' (first|exact trivial|((first|((first|apply hT|apply hE|apply hN);clear hN hE hT)|(refine ⟨fun hb=>?_,fun hb=>?_⟩<;>(try simp only [nrm] at hb)<;>try exact kZ hb)|refine kV ?_)<;>((try with_reducible refine ab fun N hN hE hT=>?_);(conv=>whnf)))|refine kY ?_ ?_)
      all_goals first|rfl|exact hL2|(rw [List.drop_zero,List.take_length];exact hL2)|(rw [List.take_length];exact hL2)|trace_state
   ·have hs : br w c = (w,101):=by unfold br;rw [if_neg (by rw [hR];simp),if_pos (.inl (by omega))]
    rw [hs]
    refine aF Tryz.func223 104 ?_
    exact fA0
theorem xo {α : Type} {L : List α} {p q a b : α} (h1 : a = p) (h2 : b = q) : List.take (L.length + (List.take 1 (List.drop 0 [a])).length + (List.take 1 (List.drop 0 [b])).length) (List.take (L.length + (List.take 1 (List.drop 0 [a])).length) (List.take L.length L ++ List.take 1 (List.drop 0 [a])) ++ List.take 1 (List.drop 0 [b])) = L ++ [p] ++ [q]:=by
 subst h1 h2
 rw [List.take_length]
 show List.take (L.length + 1 + 1) (List.take (L.length + 1) (L ++ [a]) ++ [b]) = L ++ [a] ++ [b]
 rw [List.take_of_length_le (l:=L ++ [a]) (by simp),List.take_of_length_le (by simp)]
abbrev Gl (p : Player) (d : Bool) : Blk:=match d with
 | true=>.box [i64 p.id,i64 p.x,i64 p.y,.top,i64 p.wth,.top,bol p.agrees]
 | false=>.box [i64 p.id,i64 p.x,i64 p.y,.own .slot 95 0 p.bag.length none,i64 p.wth,.own .slot 103 0 p.offer.length none,bol p.agrees]
abbrev KU (w : Wld) (p : Player) (L : List Player) (d : Bool) : Mem:=match d with
 | true=>[(6,Gl p true),(8,.box eX),(12,.box (bA w)),(150101,.row .player L)]
 | false=>[(6,Gl p false),(8,.box eX),(12,.box (bA w)),(150101,.row .player L),(95,.row .slot p.bag),(103,.row .slot p.offer)]
theorem dS (w : Wld) (p : Player) (hw : OkW w) (hp : OkP p) : Api Tryz.prog 83 [az w,aw p] (.tup [az (am w p).1,i64 (am w p).2]):=by
 have hrt:=fd w hw
 have hcp:=fp w hw
 have hpl:=nx p hp
 have hgp:=db w p.id hw
 have hb1:=hp.nb
 have hb2:=hp.no
 cases hR : aO w with
 | false =>
  rw [hR] at hrt
  have hs : am w p = (w,113):=by unfold am;rw [if_pos hR]
  rw [hs]
  refine aF Tryz.func83 102 ?_
  exact fA0
 | true =>
  rw [hR] at hrt
  have hRW:=aK.1 hR
  have hsz:=hRW.size
  have hth:=qx w p ⟨hsz.1,hsz.2.1⟩
  cases hS : a7 p with
  | false =>
   rw [hS] at hpl
   have hs : am w p = (w,110):=by unfold am;rw [if_neg (by rw [hR];simp),if_pos (.inl hS)]
   rw [hs]
   refine aF Tryz.func83 102 ?_
   exact fA0
  | true =>
   rw [hS] at hpl
   cases hI : av w.size p.x p.y with
   | false =>
    rw [hI] at hth
    have hs : am w p = (w,110):=by unfold am;rw [if_neg (by rw [hR];simp),if_pos (.inr hI)]
    rw [hs]
    refine aF Tryz.func83 102 ?_
    exact fA0
   | true =>
    rw [hI] at hth
    have e : ag w p.id = match aH pid w.players p.id with|some p=>(p,true)|none=>(kf,false):=by
     unfold ag;rw [if_neg (by rw [hR];simp)];rfl
    have e2 : (ag w p.id).2 = (aH pid w.players p.id).isSome:=by rw [e];cases aH pid w.players p.id<;>rfl
    rw [e2] at hgp
    generalize (ag w p.id).1 = Z at *
    by_cases hF : (aH pid w.players p.id).isSome = false ∧ 32 ≤ w.players.length
    ·have hs : am w p = (w,3):=by unfold am;rw [if_neg (by rw [hR];simp),if_neg (by rw [hS,hI];simp),if_neg (by rw [hF.1];simp),if_pos hF.2]
     rw [hs]
     rw [hF.1] at hgp
     have hF2:=hF.2
     refine aF Tryz.func83 102 ?_
     exact fA0
    ·have ho : fD w p:=⟨hRW,hS,hI,by
      cases hg : (aH pid w.players p.id).isSome with
      | true=>exact .inl rfl
      | false=>exact .inr (by rw [hg] at hF;simp at hF;omega)⟩
     rw [iv ho,← wW hRW.rp]
     unfold cR
     dsimp only
     cases hg : (aH pid w.players p.id).isSome
     all_goals
      rw [hg] at hgp
      have hlen : (aH pid w.players p.id).isSome = false → w.players.length < 32:=fun h=>by rw [h] at hF;simp at hF;omega
      rw [hg] at hlen
      first|(have hlen2:=hlen rfl)|skip
      refine aF Tryz.func83 102 ?_
      ((try with_reducible refine ab fun N hN hE hT=>?_);(conv=>whnf))
      repeat' (first|exact trivial|((first|((first|apply hT|apply hE|apply hN);clear hN hE hT)|(refine ⟨fun hb=>?_,fun hb=>?_⟩<;>(try simp only [nrm] at hb)<;>try exact kZ hb)|refine kV ?_)<;>((try with_reducible refine ab fun N hN hE hT=>?_);(conv=>whnf)))|refine kY ?_ ?_)
      refine ap.loopS ah (σ:=Nat × Bool × List Player) [3,4,6,9,10,11] (fun (k,d,L)=>[.ptr 6 0,.ptr 8 0,.ptr 12 0,.own .player 150101 0 L.length none,bol d,i64 k]) (fun (k,d,L)=>KU w p L d)
       (fun (k,d,L)=>k ≤ w.players.length ∧ L ++ jy p (w.players.drop k) d = jy p w.players false ∧ L.length ≤ k + d.toNat) (fun (k,_,_)=>w.players.length - k) (0,false,[]) ⟨by omega,rfl,by simp⟩ ?_ ?_
      ·exact fB0
      ·rintro ⟨k,d,L⟩ ⟨hk,hL,hLl⟩
       try dsimp only at hk hL hLl
       by_cases hlt : k < w.players.length
       ·rw [aY (t:=.player) hlt] at hL
        have q0 : (elt .player w.players (k : Int).toNat).id = (elt .player w.players k).id:=rfl
        cases d with
        | true =>
         simp only [Bool.toNat_true] at hLl
         rw [kI,if_neg (show ¬ (true = false ∧ p.id ≤ (elt .player w.players k).id) by simp),Bool.true_or,List.nil_append] at hL
         by_cases h2 : (elt .player w.players k).id = p.id
         ·rw [if_pos h2,List.nil_append] at hL
          conv=>whnf
          repeat' (first|exact trivial|((first|((first|apply hT|apply hE|apply hN);clear hN hE hT)|(refine ⟨fun hb=>?_,fun hb=>?_⟩<;>(try simp only [nrm] at hb)<;>try exact kZ hb)|refine kV ?_)<;>((try with_reducible refine ab fun N hN hE hT=>?_);(conv=>whnf)))|refine kY ?_ ?_)
          refine .to (k + 1,true,L) ⟨hlt,hL,by simp;omega⟩ (by first|omega|(dsimp only;omega)) ?_
          conv=>whnf
          repeat' (first|exact trivial|((first|((first|apply hT|apply hE|apply hN);clear hN hE hT)|(refine ⟨fun hb=>?_,fun hb=>?_⟩<;>(try simp only [nrm] at hb)<;>try exact kZ hb)|refine kV ?_)<;>((try with_reducible refine ab fun N hN hE hT=>?_);(conv=>whnf)))|refine kY ?_ ?_)
          all_goals first|rfl|exact List.take_length|exact eG rfl|exact xo (by simp only [List.drop_zero,List.take_length]) rfl|(simp;done)|trace_state
         ·rw [if_neg h2] at hL
          conv=>whnf
          repeat' (first|exact trivial|((first|((first|apply hT|apply hE|apply hN);clear hN hE hT)|(refine ⟨fun hb=>?_,fun hb=>?_⟩<;>(try simp only [nrm] at hb)<;>try exact kZ hb)|refine kV ?_)<;>((try with_reducible refine ab fun N hN hE hT=>?_);(conv=>whnf)))|refine kY ?_ ?_)
          refine .to (k + 1,true,L ++ [elt .player w.players k]) ⟨hlt,by rw [← hL];simp,by simp;omega⟩ (by first|omega|(dsimp only;omega)) ?_
          conv=>whnf
          repeat' (first|exact trivial|((first|((first|apply hT|apply hE|apply hN);clear hN hE hT)|(refine ⟨fun hb=>?_,fun hb=>?_⟩<;>(try simp only [nrm] at hb)<;>try exact kZ hb)|refine kV ?_)<;>((try with_reducible refine ab fun N hN hE hT=>?_);(conv=>whnf)))|refine kY ?_ ?_)
          all_goals first|rfl|exact List.take_length|exact eG rfl|exact xo (by simp only [List.drop_zero,List.take_length]) rfl|(simp;done)|trace_state
        | false =>
         simp only [Bool.toNat_false] at hLl
         by_cases h1 : (elt .player w.players k).id < p.id
         ·rw [Cm h1] at hL
          conv=>whnf
          repeat' (first|exact trivial|((first|((first|apply hT|apply hE|apply hN);clear hN hE hT)|(refine ⟨fun hb=>?_,fun hb=>?_⟩<;>(try simp only [nrm] at hb)<;>try exact kZ hb)|refine kV ?_)<;>((try with_reducible refine ab fun N hN hE hT=>?_);(conv=>whnf)))|refine kY ?_ ?_)
          refine .to (k + 1,false,L ++ [elt .player w.players k]) ⟨hlt,by rw [← hL];simp,by simp;omega⟩ (by first|omega|(dsimp only;omega)) ?_
          conv=>whnf
          repeat' (first|exact trivial|((first|((first|apply hT|apply hE|apply hN);clear hN hE hT)|(refine ⟨fun hb=>?_,fun hb=>?_⟩<;>(try simp only [nrm] at hb)<;>try exact kZ hb)|refine kV ?_)<;>((try with_reducible refine ab fun N hN hE hT=>?_);(conv=>whnf)))|refine kY ?_ ?_)
          all_goals first|rfl|exact List.take_length|exact eG rfl|exact xo (by simp only [List.drop_zero,List.take_length]) rfl|(simp;done)|trace_state
         ·by_cases h2 : (elt .player w.players k).id = p.id
          ·rw [Cn h2] at hL
           conv=>whnf
           repeat' (first|exact trivial|((first|((first|apply hT|apply hE|apply hN);clear hN hE hT)|(refine ⟨fun hb=>?_,fun hb=>?_⟩<;>(try simp only [nrm] at hb)<;>try exact kZ hb)|refine kV ?_)<;>((try with_reducible refine ab fun N hN hE hT=>?_);(conv=>whnf)))|refine kY ?_ ?_)
           refine .to (k + 1,true,L ++ [p]) ⟨hlt,by rw [← hL];simp,by simp;omega⟩ (by first|omega|(dsimp only;omega)) ?_
           conv=>whnf
           repeat' (first|exact trivial|((first|((first|apply hT|apply hE|apply hN);clear hN hE hT)|(refine ⟨fun hb=>?_,fun hb=>?_⟩<;>(try simp only [nrm] at hb)<;>try exact kZ hb)|refine kV ?_)<;>((try with_reducible refine ab fun N hN hE hT=>?_);(conv=>whnf)))|refine kY ?_ ?_)
           all_goals first|rfl|exact List.take_length|exact eG rfl|(refine eG ?_;simp only [List.drop_zero,List.take_length];done)|(simp;done)|trace_state
          ·rw [Co (by omega)] at hL
           conv=>whnf
           repeat' (first|exact trivial|((first|((first|apply hT|apply hE|apply hN);clear hN hE hT)|(refine ⟨fun hb=>?_,fun hb=>?_⟩<;>(try simp only [nrm] at hb)<;>try exact kZ hb)|refine kV ?_)<;>((try with_reducible refine ab fun N hN hE hT=>?_);(conv=>whnf)))|refine kY ?_ ?_)
           refine .to (k + 1,true,L ++ [p] ++ [elt .player w.players k]) ⟨hlt,by rw [← hL];simp,by simp;omega⟩ (by first|omega|(dsimp only;omega)) ?_
           conv=>whnf
           repeat' (first|exact trivial|((first|((first|apply hT|apply hE|apply hN);clear hN hE hT)|(refine ⟨fun hb=>?_,fun hb=>?_⟩<;>(try simp only [nrm] at hb)<;>try exact kZ hb)|refine kV ?_)<;>((try with_reducible refine ab fun N hN hE hT=>?_);(conv=>whnf)))|refine kY ?_ ?_)
           all_goals first|rfl|exact List.take_length|exact eG rfl|exact xo (by simp only [List.drop_zero,List.take_length]) rfl|(simp;done)|trace_state
       ·obtain rfl : k = w.players.length:=by omega
        rw [List.drop_length] at hL
        cases d
        all_goals
         simp only [jy] at hL
         simp only [Bool.toNat_true,Bool.toNat_false] at hLl
         first|rw [if_neg Bool.false_ne_true] at hL|rw [if_neg (fun h=>h)] at hL|rw [if_pos rfl,List.append_nil] at hL|rw [if_pos trivial,List.append_nil] at hL|trace_state
         conv=>whnf
         repeat' (first|exact trivial|((first|((first|apply hT|apply hE|apply hN);clear hN hE hT)|(refine ⟨fun hb=>?_,fun hb=>?_⟩<;>(try simp only [nrm] at hb)<;>try exact kZ hb)|refine kV ?_)<;>((try with_reducible refine ab fun N hN hE hT=>?_);(conv=>whnf)))|refine kY ?_ ?_)
         all_goals first|rfl|(refine Eq.trans ?_ hL;rw [List.drop_zero];refine eG ?_;simp only [List.drop_zero,List.take_length];done)|(refine Eq.trans ?_ hL;rw [List.drop_zero,List.take_length])|(refine Eq.trans ?_ hL;rw [List.take_length])|trace_state
open Go Go.RowKit Eng
theorem jX {w : Wld} {p p' : Player} (h : bH w p) (hid : p'.id = p.id) (hs : a7 p' = true) (hin : av w.size p'.x p'.y = true) : am w p' = (cR w (ck w.players p'),0):=
 iv ⟨h.rw,hs,hin,.inl (by rw [hid,h.get];rfl)⟩
theorem Ih {w : Wld} {p : Player} {k : Chunk} (h : bH w p) (hk : ai k = true) (hm : max k.x k.y < w.size) : bH (br w k).1 p ∧ (br w k).2 = 0 ∧ (br w k).1.size = w.size:=by
 have e:=nK h.rw hk hm
 rw [e]
 exact ⟨⟨FZ h.rw hk hm,h.get⟩,rfl,rfl⟩
theorem jb {w : Wld} {p p' : Player} {k : Chunk} (h : bH w p) (hid : p'.id = p.id) (hs : a7 p' = true) (hin : av w.size p'.x p'.y = true) (hk : ai k = true) (hm : max k.x k.y < w.size) :
  cV w k p' = ((am (br w k).1 p').1,0):=by
 obtain ⟨h1,h2,h3⟩:=Ih h hk hm
 unfold cV
 rw [if_neg (not_not_intro h2)]
 have e:=jX h1 hid hs (by rw [h3];exact hin)
 rw [e]
theorem my {w : Wld} {p : Player} {x y : Int} (h : bH w p) (hin : av w.size x y = true) {k : Chunk} (hx : k.x = (aA w x y).x) (hy : k.y = (aA w x y).y) : max k.x k.y < w.size:=by
 obtain ⟨_,h2,h3⟩:=cd h.rw hin
 have:=(a6 h.rw).1 hin
 omega
def okA (w : Wld) (r : Wld × Int) : Wld × Int:=if r.2 = 0 then (r.1,0) else (w,r.2)
theorem bE {w w' : Wld} {e : Int} (h : ¬ e = 0) : okA w (w',e) = (w,e):=if_neg h
theorem jA {w w' : Wld} : okA w (w',0) = (w',0):=if_pos rfl
theorem Gm {w : Wld} {id : Int} {c : Cmd} (hR : aO w = true) (hD : bG c = true) (hp : (ag w id).2 = true) (h1 : ¬ c.dol = 1) : aG w id c = okA w (aZ w (ag w id).1 c):=by
 unfold aG okA
 rw [if_neg (by rw [hR];simp),if_neg (by rw [hD];simp),if_neg (by rw [hp,decide_eq_false h1];simp),if_neg h1]
 by_cases h : (aZ w (ag w id).1 c).2 = 0
 ·rw [if_neg (not_not_intro h),if_pos h]
 ·rw [if_pos h,if_neg h]
end Go.Proofs.YtkojlembanldcaaGreat
