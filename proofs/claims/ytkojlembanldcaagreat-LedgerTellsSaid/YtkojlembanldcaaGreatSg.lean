/- The reference of the ledger. -/
import Derived.Test.YtkojlembanldcaaGreatSe
import Derived.Test.YtkojlembanldcaaGreatRb
import Derived.Test.YtkojlembanldcaaGreatRp
import Derived.Test.YtkojlembanldcaaGreatSc
import Derived.Test.YtkojlembanldcaaGreatRq
set_option linter.unusedSimpArgs false
set_option linter.unusedVariables false
set_option maxRecDepth 100000
set_option maxHeartbeats 16000000
namespace Go.Proofs.YtkojlembanldcaaGreat
open Go Go.RowKit Eng
theorem F6 {s : aa} {i : Int} (hi : 1 ≤ i) (hn : 0 ≤ s.n) : ac [s] i = if s.item = i then s.n else 0:=by
 simp only [ac,cnt]
 by_cases h : s.item = i
 ·rw [if_pos h,if_pos ⟨by omega,h⟩];omega
 ·rw [if_neg h,if_neg (fun x=>h x.2)];rfl
theorem H3 {w : Wld} (hR : RW w) : tw 0 w = 0:=by
 have h:=(jP (bZ hR)).2.1
 rw [jU hR] at h
 exact h
theorem KQ {w : Wld} (hR : RW w) : hv w 1 = aq:=by
 unfold hv
 show [tw ((0 : Nat) : Int) w] ++ _ = _
 rw [show ((0 : Nat) : Int) = 0 from rfl,H3 hR];rfl
theorem se (w : Wld) (hw : OkW w) : Ev1 Tryz.prog 56 [az w] [] (.own .i64 390001 0 13 none) [(390001,.row .i64 (bY w))]:=by
 have hrt:=fd w hw
 have hlz : aq.length = 13:=rfl
 cases hR0 : aO w with
 | false =>
  rw [hR0] at hrt
  have hs : bY w = aq:=by unfold bY;rw [if_neg (by rw [hR0];simp)]
  rw [hs]
  refine eF Tryz.func56 120 ?_
  exact fA0
 | true =>
  rw [hR0] at hrt
  have hR:=aK.1 hR0
  have hnp:=hw.np
  have hnc:=hw.nc
  rw [jU hR]
  unfold d8
  obtain ⟨V,hz0,hnx,hat,hsf,hln,hVe⟩ : ∃ V : Nat → List (El .i64),V 1 = aq ∧ (∀ i,i < 13 → (V i).set i (tw i w) = V (i + 1)) ∧ (∀ i,i < 13 → ∀ x : Int,elt .i64 ((V i).set i x) i = x) ∧ (∀ i,i < 13 → (V i).set i (0 : Int) = V i) ∧ (∀ i,i ≤ 13 → (V i).length = 13) ∧ V 13 = hv w 13:=
   ⟨hv w,KQ hR,fun i h=>Ja w h,fun i h x=>Li w h x,fun i h=>Jb w h,fun i h=>jm w h,rfl⟩
  rw [← hVe]
  clear hVe
  refine eF Tryz.func56 120 ?_
  ((try with_reducible refine ab fun N hN hE hT=>?_);(conv=>whnf))
  repeat' (first|exact trivial|((first|((first|apply hT|apply hE|apply hN);clear hN hE hT)|(refine ⟨fun hb=>?_,fun hb=>?_⟩<;>(try simp only [nrm] at hb)<;>try exact kZ hb)|refine kV ?_)<;>((try with_reducible refine ab fun N hN hE hT=>?_);(conv=>whnf)))|refine kY ?_ ?_)
  refine ap.loopQ ah (σ:=Nat) [1,3,4] (fun i=>[.ptr 200002 0,.own .i64 200023 0 13 none,i64 i]) (fun i=>[(200002,.box (bA w)),(200023,.row .i64 (V i))]) (fun i=>1 ≤ i ∧ i ≤ 13) (fun i=>13 - i) 1 (by omega) ?_ ?_
  ·conv=>whnf
   repeat' (first|exact trivial|((first|((first|apply hT|apply hE|apply hN);clear hN hE hT)|(refine ⟨fun hb=>?_,fun hb=>?_⟩<;>(try simp only [nrm] at hb)<;>try exact kZ hb)|refine kV ?_)<;>((try with_reducible refine ab fun N hN hE hT=>?_);(conv=>whnf)))|refine kY ?_ ?_)
   all_goals first|rfl|omega|(rw [hz0];rfl)|trace_state
  ·rintro i ⟨hi1,hi⟩ N hN hE hT
   have hl1:=hln i hi
   by_cases hlt : i < 13
   ·have hPQ : ∃ P Q : Nat → Int,P 0 = 0 ∧ P w.players.length = Q 0 ∧ Q w.chunks.length = tw i w ∧ (∀ k,inN 288230376151711744 (P k)) ∧ (∀ k,inN 288230376151711744 (Q k)) ∧
      (∀ k,k < w.players.length → P (k + 1) = P k + (ac (elt .player w.players k).bag i + ac (elt .player w.players k).offer i)) ∧
      (∀ k,k < w.chunks.length → ∃ H B : Nat → Int,H 0 = Q k ∧ H (elt .chunk w.chunks k).heaps.length = B 0 ∧ B (elt .chunk w.chunks k).boxes.length = Q (k + 1) ∧ (∀ j,inN 288230376151711744 (H j)) ∧ (∀ j,inN 288230376151711744 (B j)) ∧
       (∀ j,j < (elt .chunk w.chunks k).heaps.length → H (j + 1) = H j + ac [(elt .heap (elt .chunk w.chunks k).heaps j).slot] i) ∧ (∀ j,j < (elt .chunk w.chunks k).boxes.length → B (j + 1) = B j + ac (elt .box (elt .chunk w.chunks k).boxes j).bag i)):=
     ⟨fun k=>ac (lgP w k) i,fun k=>ac (lgC w k) i,rfl,by dsimp only;rw [B6],by dsimp only;rw [B7,nq],fun k=>pM hR (B8 w k) _,fun k=>pM hR (q_ w k) _,
      fun k hk=>by dsimp only;rw [zh hk,cu,cu],
      fun k hk=>⟨fun j=>ac (lgH w k j) i,fun j=>ac (lgB w k j) i,by dsimp only;rw [zl],by dsimp only;rw [sR],by dsimp only;rw [vh hk],fun j=>pM hR (B9 hk j) _,fun j=>pM hR (vi hk j) _,
       fun j hj=>by dsimp only;rw [zm hj,cu],fun j hj=>by dsimp only;rw [zn hj,cu]⟩⟩
    obtain ⟨P,Q,p0,p1,q1,p2,q2,p3,q3⟩:=hPQ
    obtain ⟨R,r0,rE,rl,re,rs⟩ : ∃ R : Int → List (El .i64),R 0 = V i ∧ R (tw i w) = V (i + 1) ∧ (∀ x,(R x).length = 13) ∧ (∀ b x : Int,inN b x → inN b (elt .i64 (R x) (((i : Nat) : Int).toNat + 0))) ∧ (∀ x z y : Int,y = elt .i64 (R x) (((i : Nat) : Int).toNat + 0) + z → (R x).set (((i : Nat) : Int).toNat + 0) y = R (x + z)):=
     ⟨fun x=>(V i).set i x,hsf i hlt,hnx i hlt,fun x=>by rw [List.length_set];exact hl1,fun b x h=>by rw [Int.toNat_natCast,Nat.add_zero];exact (hat i hlt x).symm ▸ h,fun x z y h=>by rw [h,Int.toNat_natCast,Nat.add_zero,List.set_set,hat i hlt x]⟩
    rw [← q1] at rE
    rw [← p0] at r0
    clear hnx hat hsf
    have hsm:=rN hR
    conv=>whnf
    repeat' (first|exact trivial|((first|((first|apply hT|apply hE|apply hN);clear hN hE hT)|(refine ⟨fun hb=>?_,fun hb=>?_⟩<;>(try simp only [nrm] at hb)<;>try exact kZ hb)|refine kV ?_)<;>((try with_reducible refine ab fun N hN hE hT=>?_);(conv=>whnf)))|refine kY ?_ ?_)
    refine ap.loopQ ah (σ:=Nat) [1,3,4,5,6] (fun k=>[.ptr 200002 0,.own .i64 200023 0 13 none,i64 i,.lit (.int .u8 (i : Nat)),i64 k]) (fun k=>[(200002,.box (bA w)),(200023,.row .i64 (R (P k)))]) (fun k=>k ≤ w.players.length) (fun k=>w.players.length - k) 0 (by omega) ?_ ?_
    ·conv=>whnf
     repeat' (first|exact trivial|((first|((first|apply hT|apply hE|apply hN);clear hN hE hT)|(refine ⟨fun hb=>?_,fun hb=>?_⟩<;>(try simp only [nrm] at hb)<;>try exact kZ hb)|refine kV ?_)<;>((try with_reducible refine ab fun N hN hE hT=>?_);(conv=>whnf)))|refine kY ?_ ?_)
     all_goals first|rfl|omega|(rw [r0];exact List.take_of_length_le (by omega))|(rw [r0];omega)|trace_state
    ·intro k hk N hN hE hT
     have hz2:=rl (P k)
     by_cases hlk : k < w.players.length
     ·have hm:=ao (t:=.player) hlk
      have hbl:=Fv hm
      have hsb:=ox hR hw
      have hb1 : ∀ s ∈ (elt .player w.players k).bag,s.n ≤ 16:=fun s hs=>((bU (cm (hR.players _ hm).1).2.2.2.1) s hs).2
      have hb2 : ∀ s ∈ (elt .player w.players k).offer,s.n ≤ 16:=fun s hs=>by
       rcases (cm (hR.players _ hm).1).2.2.2.2 with h|h
       ·rw [h.2.1] at hs;cases hs
       ·exact ((bU h.2.2.2.2) s hs).2
      have c1:=f7 (elt .player w.players k).bag i hb1 (by omega)
      have c2:=f7 (elt .player w.players k).offer i hb2 (by omega)
      have n1:=kw i (elt .player w.players k).bag
      have n2:=kw i (elt .player w.players k).offer
      have hs3:=p3 k hlk
      have hz3:=rl (P (k + 1))
      have hi1:=p2 k
      have hi2:=p2 (k + 1)
      have he:=re _ _ (p2 k)
      have hst:=rs (P k)
      unfold inN at hi1 hi2 he
      generalize ac (elt .player w.players k).bag i = C1 at *
      generalize ac (elt .player w.players k).offer i = C2 at *
      conv=>whnf
      repeat' (first|exact trivial|((first|((first|apply hT|apply hE|apply hN);clear hN hE hT)|(refine ⟨fun hb=>?_,fun hb=>?_⟩<;>(try simp only [nrm] at hb)<;>try exact kZ hb)|refine kV ?_)<;>((try with_reducible refine ab fun N hN hE hT=>?_);(conv=>whnf)))|refine kY ?_ ?_)
      refine .to (k + 1) (by omega) (by omega) ?_
      conv=>whnf
      repeat' (first|exact trivial|((first|((first|apply hT|apply hE|apply hN);clear hN hE hT)|(refine ⟨fun hb=>?_,fun hb=>?_⟩<;>(try simp only [nrm] at hb)<;>try exact kZ hb)|refine kV ?_)<;>((try with_reducible refine ab fun N hN hE hT=>?_);(conv=>whnf)))|refine kY ?_ ?_)
      all_goals first|rfl|omega|exact List.take_of_length_le (by omega)|(rw [hst (C1 + C2) _ (by omega),← hs3];exact List.take_of_length_le (by omega))|(rw [List.length_set];omega)|trace_state
     ·have hke : k = w.players.length:=by omega
      clear hlk hk
      subst hke
      have hz4:=rl (Q 0)
      conv=>whnf
      repeat' (first|exact trivial|((first|((first|apply hT|apply hE|apply hN);clear hN hE hT)|(refine ⟨fun hb=>?_,fun hb=>?_⟩<;>(try simp only [nrm] at hb)<;>try exact kZ hb)|refine kV ?_)<;>((try with_reducible refine ab fun N hN hE hT=>?_);(conv=>whnf)))|refine kY ?_ ?_)
      refine ap.loopQ ah (σ:=Nat) [1,3,4,5,7] (fun k=>[.ptr 200002 0,.own .i64 200023 0 13 none,i64 i,.lit (.int .u8 (i : Nat)),i64 k]) (fun k=>[(200002,.box (bA w)),(200023,.row .i64 (R (Q k)))]) (fun k=>k ≤ w.chunks.length) (fun k=>w.chunks.length - k) 0 (by omega) ?_ ?_
      ·conv=>whnf
       repeat' (first|exact trivial|((first|((first|apply hT|apply hE|apply hN);clear hN hE hT)|(refine ⟨fun hb=>?_,fun hb=>?_⟩<;>(try simp only [nrm] at hb)<;>try exact kZ hb)|refine kV ?_)<;>((try with_reducible refine ab fun N hN hE hT=>?_);(conv=>whnf)))|refine kY ?_ ?_)
       all_goals first|rfl|omega|(rw [p1];exact List.take_of_length_le (by omega))|(rw [p1];omega)|trace_state
      ·intro k hk N hN hE hT
       have hz5:=rl (Q k)
       by_cases hlc : k < w.chunks.length
       ·have hm:=ao (t:=.chunk) hlc
        obtain ⟨H,B,h0,h1,h2,h3,h4,h5,h6⟩:=q3 k hlc
        have hok:=hw.fit _ hm
        have nh:=hok.heaps
        have nb:=hok.boxes
        have hcr:=(hR.chunks _ hm).1
        generalize hc : elt .chunk w.chunks k = c at *
        conv=>whnf
        repeat' (first|exact trivial|((first|((first|apply hT|apply hE|apply hN);clear hN hE hT)|(refine ⟨fun hb=>?_,fun hb=>?_⟩<;>(try simp only [nrm] at hb)<;>try exact kZ hb)|refine kV ?_)<;>((try with_reducible refine ab fun N hN hE hT=>?_);(conv=>whnf)))|refine kY ?_ ?_)
        rw [show elt .chunk w.chunks ((k : Nat) : Int).toNat = c from hc]
        have hz7:=rl (H 0)
        refine ap.loopQ ah (σ:=Nat) [1,3,4,5,7,8,9] (fun j=>[.ptr 200002 0,.own .i64 200023 0 13 none,i64 i,.lit (.int .u8 (i : Nat)),i64 k,.ptr 200016 0,i64 j]) (fun j=>[(200002,.box (bA w)),(200016,.box (bB c)),(200023,.row .i64 (R (H j)))]) (fun j=>j ≤ c.heaps.length) (fun j=>c.heaps.length - j) 0 (by omega) ?_ ?_
        ·conv=>whnf
         repeat' (first|exact trivial|((first|((first|apply hT|apply hE|apply hN);clear hN hE hT)|(refine ⟨fun hb=>?_,fun hb=>?_⟩<;>(try simp only [nrm] at hb)<;>try exact kZ hb)|refine kV ?_)<;>((try with_reducible refine ab fun N hN hE hT=>?_);(conv=>whnf)))|refine kY ?_ ?_)
         all_goals first|rfl|omega|(rw [h0];exact List.take_of_length_le (by omega))|(rw [h0];omega)|trace_state
        ·intro j hj N hN hE hT
         have hz8:=rl (H j)
         by_cases hlj : j < c.heaps.length
         ·have hsl:=gZ (ll hcr (ao (t:=.heap) hlj)).1
          have hs3:=h5 j hlj
          have hz3:=rl (H (j + 1))
          have hi1:=h3 j
          have hi2:=h3 (j + 1)
          have he:=re _ _ (h3 j)
          have hst:=rs (H j)
          unfold inN at hi1 hi2 he
          have q0 : (elt .heap c.heaps (j : Int).toNat).slot.item = (elt .heap c.heaps j).slot.item:=rfl
          have q1 : (elt .heap c.heaps (j : Int).toNat).slot.n = (elt .heap c.heaps j).slot.n:=rfl
          rw [F6 (by omega) (by omega)] at hs3
          by_cases hq : (elt .heap c.heaps j).slot.item = i
          ·rw [if_pos hq] at hs3
           conv=>whnf
           repeat' (first|exact trivial|((first|((first|apply hT|apply hE|apply hN);clear hN hE hT)|(refine ⟨fun hb=>?_,fun hb=>?_⟩<;>(try simp only [nrm] at hb)<;>try exact kZ hb)|refine kV ?_)<;>((try with_reducible refine ab fun N hN hE hT=>?_);(conv=>whnf)))|refine kY ?_ ?_)
           refine .to (j + 1) (by omega) (by omega) ?_
           conv=>whnf
           repeat' (first|exact trivial|((first|((first|apply hT|apply hE|apply hN);clear hN hE hT)|(refine ⟨fun hb=>?_,fun hb=>?_⟩<;>(try simp only [nrm] at hb)<;>try exact kZ hb)|refine kV ?_)<;>((try with_reducible refine ab fun N hN hE hT=>?_);(conv=>whnf)))|refine kY ?_ ?_)
           all_goals first|rfl|omega|exact List.take_of_length_le (by omega)|(rw [hst (elt .heap c.heaps j).slot.n _ (by omega),← hs3];exact List.take_of_length_le (by omega))|(rw [List.length_set];omega)|trace_state
          ·rw [if_neg hq,Int.add_zero] at hs3
           conv=>whnf
           repeat' (first|exact trivial|((first|((first|apply hT|apply hE|apply hN);clear hN hE hT)|(refine ⟨fun hb=>?_,fun hb=>?_⟩<;>(try simp only [nrm] at hb)<;>try exact kZ hb)|refine kV ?_)<;>((try with_reducible refine ab fun N hN hE hT=>?_);(conv=>whnf)))|refine kY ?_ ?_)
           refine .to (j + 1) (by omega) (by omega) ?_
           conv=>whnf
           repeat' (first|exact trivial|((first|((first|apply hT|apply hE|apply hN);clear hN hE hT)|(refine ⟨fun hb=>?_,fun hb=>?_⟩<;>(try simp only [nrm] at hb)<;>try exact kZ hb)|refine kV ?_)<;>((try with_reducible refine ab fun N hN hE hT=>?_);(conv=>whnf)))|refine kY ?_ ?_)
           all_goals first|rfl|omega|(rw [hs3];exact List.take_of_length_le (by omega))|(rw [hs3];omega)|trace_state
         ·have hje : j = c.heaps.length:=by omega
          clear hlj hj
          subst hje
          have hz9:=rl (B 0)
          conv=>whnf
          repeat' (first|exact trivial|((first|((first|apply hT|apply hE|apply hN);clear hN hE hT)|(refine ⟨fun hb=>?_,fun hb=>?_⟩<;>(try simp only [nrm] at hb)<;>try exact kZ hb)|refine kV ?_)<;>((try with_reducible refine ab fun N hN hE hT=>?_);(conv=>whnf)))|refine kY ?_ ?_)
          refine ap.loopQ ah (σ:=Nat) [1,3,4,5,7,8,10] (fun j=>[.ptr 200002 0,.own .i64 200023 0 13 none,i64 i,.lit (.int .u8 (i : Nat)),i64 k,.ptr 200016 0,i64 j]) (fun j=>[(200002,.box (bA w)),(200016,.box (bB c)),(200023,.row .i64 (R (B j)))]) (fun j=>j ≤ c.boxes.length) (fun j=>c.boxes.length - j) 0 (by omega) ?_ ?_
          ·conv=>whnf
           repeat' (first|exact trivial|((first|((first|apply hT|apply hE|apply hN);clear hN hE hT)|(refine ⟨fun hb=>?_,fun hb=>?_⟩<;>(try simp only [nrm] at hb)<;>try exact kZ hb)|refine kV ?_)<;>((try with_reducible refine ab fun N hN hE hT=>?_);(conv=>whnf)))|refine kY ?_ ?_)
           all_goals first|rfl|omega|(rw [h1];exact List.take_of_length_le (by omega))|(rw [h1];omega)|trace_state
          ·intro j hj N hN hE hT
           have hz10:=rl (B j)
           by_cases hlb : j < c.boxes.length
           ·have hbr:=i7 hcr (ao (t:=.box) hlb)
            have c1:=f7 (elt .box c.boxes j).bag i (fun s hs=>(bU hbr.2 s hs).2) (by omega)
            have n1:=kw i (elt .box c.boxes j).bag
            have hs3:=h6 j hlb
            have hz3:=rl (B (j + 1))
            have hi1:=h4 j
            have hi2:=h4 (j + 1)
            have he:=re _ _ (h4 j)
            have hst:=rs (B j)
            unfold inN at hi1 hi2 he
            generalize ac (elt .box c.boxes j).bag i = C1 at *
            conv=>whnf
            repeat' (first|exact trivial|((first|((first|apply hT|apply hE|apply hN);clear hN hE hT)|(refine ⟨fun hb=>?_,fun hb=>?_⟩<;>(try simp only [nrm] at hb)<;>try exact kZ hb)|refine kV ?_)<;>((try with_reducible refine ab fun N hN hE hT=>?_);(conv=>whnf)))|refine kY ?_ ?_)
            refine .to (j + 1) (by omega) (by omega) ?_
            conv=>whnf
            repeat' (first|exact trivial|((first|((first|apply hT|apply hE|apply hN);clear hN hE hT)|(refine ⟨fun hb=>?_,fun hb=>?_⟩<;>(try simp only [nrm] at hb)<;>try exact kZ hb)|refine kV ?_)<;>((try with_reducible refine ab fun N hN hE hT=>?_);(conv=>whnf)))|refine kY ?_ ?_)
            all_goals first|rfl|omega|exact List.take_of_length_le (by omega)|(rw [hst C1 _ (by omega),← hs3];exact List.take_of_length_le (by omega))|(rw [List.length_set];omega)|trace_state
           ·have hje : j = c.boxes.length:=by omega
            clear hlb hj
            subst hje
            have hz11:=rl (Q (k + 1))
            conv=>whnf
            repeat' (first|exact trivial|((first|((first|apply hT|apply hE|apply hN);clear hN hE hT)|(refine ⟨fun hb=>?_,fun hb=>?_⟩<;>(try simp only [nrm] at hb)<;>try exact kZ hb)|refine kV ?_)<;>((try with_reducible refine ab fun N hN hE hT=>?_);(conv=>whnf)))|refine kY ?_ ?_)
            refine .to (k + 1) (by omega) (by omega) ?_
            conv=>whnf
            repeat' (first|exact trivial|((first|((first|apply hT|apply hE|apply hN);clear hN hE hT)|(refine ⟨fun hb=>?_,fun hb=>?_⟩<;>(try simp only [nrm] at hb)<;>try exact kZ hb)|refine kV ?_)<;>((try with_reducible refine ab fun N hN hE hT=>?_);(conv=>whnf)))|refine kY ?_ ?_)
            all_goals first|rfl|omega|(rw [h2];exact List.take_of_length_le (by omega))|(rw [h2];omega)|trace_state
       ·have hke : k = w.chunks.length:=by omega
        clear hlc hk
        subst hke
        have hz12:=hln (i + 1) (by omega)
        conv=>whnf
        repeat' (first|exact trivial|((first|((first|apply hT|apply hE|apply hN);clear hN hE hT)|(refine ⟨fun hb=>?_,fun hb=>?_⟩<;>(try simp only [nrm] at hb)<;>try exact kZ hb)|refine kV ?_)<;>((try with_reducible refine ab fun N hN hE hT=>?_);(conv=>whnf)))|refine kY ?_ ?_)
        refine .to (i + 1) (by omega) (by omega) ?_
        conv=>whnf
        repeat' (first|exact trivial|((first|((first|apply hT|apply hE|apply hN);clear hN hE hT)|(refine ⟨fun hb=>?_,fun hb=>?_⟩<;>(try simp only [nrm] at hb)<;>try exact kZ hb)|refine kV ?_)<;>((try with_reducible refine ab fun N hN hE hT=>?_);(conv=>whnf)))|refine kY ?_ ?_)
        all_goals first|rfl|omega|(rw [rE];exact List.take_of_length_le (by omega))|(rw [rE];omega)|trace_state
   ·have hie : i = 13:=by omega
    clear hlt hi hi1
    subst hie
    conv=>whnf
    repeat' (first|exact trivial|((first|((first|apply hT|apply hE|apply hN);clear hN hE hT)|(refine ⟨fun hb=>?_,fun hb=>?_⟩<;>(try simp only [nrm] at hb)<;>try exact kZ hb)|refine kV ?_)<;>((try with_reducible refine ab fun N hN hE hT=>?_);(conv=>whnf)))|refine kY ?_ ?_)
    all_goals first|rfl|omega|(rw [List.drop_zero];exact List.take_of_length_le (by omega))|exact List.take_of_length_le (by omega)|trace_state
open Go Go.RowKit Eng
theorem KR {V : Wld} (hR : RW V) (S : List (El .order)) (hS : ∀ o ∈ S,OkO o) : ∃ (W : Nat → Wld) (H : Nat → List (El .i64)),W 0 = V ∧ H 0 = d8 V ∧ H S.length = d8 (bw V S).1 ∧ (∀ j,j ≤ S.length → (H j).length = 13) ∧
  ∀ j,j < S.length → ∃ (D : List (El .i64)) (e : Int) (X : Nat → List (El .i64)),Api Tryz.prog 40 [az (W j),i64 (elt .order S j).player,co (elt .order S j).cmd] (.vec .i64 D) ∧
   Api Tryz.prog 38 [az (W j),i64 (elt .order S j).player,co (elt .order S j).cmd] (.tup [az (W (j + 1)),i64 e]) ∧ D.length = 13 ∧ X 0 = H j ∧ X 13 = H (j + 1) ∧ (∀ i,i ≤ 13 → (X i).length = 13) ∧
   (∀ i,i < 13 → (X i).set i ((elt .i64 (X i) i : Int) + elt .i64 D i) = X (i + 1)) ∧ (∀ i,i < 13 → inN 288230376151711744 (elt .i64 (X i) i) ∧ inN 288230376151711744 ((elt .i64 (X i) i : Int) + elt .i64 D i)):=by
 refine ⟨fun k=>(bw V (S.take k)).1,fun k=>d8 (bw V (S.take k)).1,rfl,rfl,by dsimp only;rw [List.take_length],fun j _=>jm _ (by omega),fun j hj=>?_⟩
 have hR2:=mv (l:=S.take j) hR
 have ho:=hS _ (ao (t:=.order) hj)
 have e:=kP V (ar .order S j hj)
 have hl : (d8 (bw V (S.take j)).1).length = 13:=jm _ (by omega)
 have hst:=wP hR2 (elt .order S j)
 refine ⟨dp (bw V (S.take j)).1 (elt .order S j).player (elt .order S j).cmd,(fP (bw V (S.take j)).1 (elt .order S j)).2,fun i=>kQ (d8 (bw V (S.take j)).1) (dp (bw V (S.take j)).1 (elt .order S j).player (elt .order S j).cmd) i,
  JN _ _ _ (bZ hR2) ho.1 ho.2,?_,uq _ _ _,rfl,?_,fun i hi=>vo hl hi,fun i hi=>?_,fun i hi=>?_⟩
 ·dsimp only
  rw [e];exact ew _ _ _ (bZ hR2) ho.1 ho.2
 ·dsimp only
  rw [e];exact hst
 ·dsimp only
  rw [uo hl hi];exact zT hl hi
 ·dsimp only
  rw [uo hl hi]
  refine ⟨rv hR2 hi,?_⟩
  have h1:=rv (nM hR2 (elt .order S j)) hi
  rw [← hst,vp hl hi] at h1
  exact h1
theorem w8 (w : Wld) (l : List (El .orders)) (hw : OkW w) (hl : l.length ≤ 1000) (hO : ∀ b ∈ l,List.length b ≤ 1000 ∧ ∀ o ∈ b,OkO o) : Api Tryz.prog 54 [az w,.vec .orders l] (.tup [.vec .i64 (bY (eL w l)),az (eL w l)]):=by
 have hcp:=fp w hw
 have hlen : ∀ V : Wld,OkW V → (bY V).length = 13:=fun V hV=>(jP hV).1
 obtain ⟨V,hV⟩ : ∃ V : Nat → Wld,V = fun k=>eL w (l.take k):=⟨_,rfl⟩
 have hV0 : V 0 = w:=by rw [hV];rfl
 have hVE : V l.length = eL w l:=by rw [hV];dsimp only;rw [List.take_length]
 have hVok : ∀ k,OkW (V k):=fun k=>by rw [hV];exact ql hw
 have hVs : ∀ k,k < l.length → V (k + 1) = (ci (V k) (elt .orders l k)).1:=fun k hk=>by
  rw [hV];dsimp only
  rw [List.take_add_one,ar .orders l k hk,Option.toList_some,wQ];rfl
 rw [← hVE]
 clear hV hVE
 have hN0 : (bY (V 0)).length = 13:=hlen _ (hVok 0)
 have hco:=se w hw
 rw [show bY w = bY (V 0) by rw [hV0]] at hco
 have hT0 : bA w = bA (V 0):=by rw [hV0]
 refine aF Tryz.func54 94 ?_
 conv=>whnf
 repeat' (first|exact trivial|((first|refine kL ?_|(refine ⟨fun hb=>?_,fun hb=>?_⟩<;>(try simp only [nrm] at hb)<;>try exact kZ hb)|refine kE hco [(390001,150001)] rfl ?_|refine kF hco [(390001,150001)] rfl ?_|refine kV ?_)<;>(conv=>whnf))|refine kY ?_ ?_)
 refine ap.loopS ah (σ:=Nat) [1,2,5,6,7] (fun k=>[.vec .orders l,.ptr 4 0,.ptr 10 0,.own .i64 150001 0 13 none,i64 k]) (fun k=>[(4,.box (bA (V k))),(10,.box eX),(150001,.row .i64 (bY (V k)))]) (fun k=>k ≤ l.length) (fun k=>l.length - k) 0 (by omega) ?_ ?_
 ·conv=>whnf
  repeat' (first|exact trivial|((first|(refine ⟨fun hb=>?_,fun hb=>?_⟩<;>(try simp only [nrm] at hb)<;>try exact kZ hb)|refine kV ?_)<;>(conv=>whnf))|refine kY ?_ ?_)
  all_goals first|rfl|omega|exact List.take_of_length_le (by omega)|rw [hV0]|trace_state
 ·intro k hk
  have hNk:=hlen _ (hVok k)
  by_cases hlt : k < l.length
  ·have hb:=hO _ (ao (t:=.orders) hlt)
   have hs1:=hVs k hlt
   have hNk1:=hlen _ (hVok (k + 1))
   have hf:=Bk (V k) (elt .orders l k) (hVok k) (by omega) hb.2
   have hso:=pe (elt .orders l k) (by omega) hb.2
   rcases o7 (V k) (elt .orders l k) with ⟨e1,e2,_⟩|⟨hR,_,h200,e⟩
   ·rw [e2] at hs1
    rw [e2] at hf
    generalize (ci (V k) (elt .orders l k)).2.2 = E at *
    generalize (ci (V k) (elt .orders l k)).2.1 = F at *
    conv=>whnf
    repeat' (first|exact trivial|((first|(refine ⟨fun hb=>?_,fun hb=>?_⟩<;>(try simp only [nrm] at hb)<;>try exact kZ hb)|refine kV ?_)<;>(conv=>whnf))|refine kY ?_ ?_)
    refine .to (k + 1) (by omega) (by omega) ?_
    conv=>whnf
    repeat' (first|exact trivial|((first|(refine ⟨fun hb=>?_,fun hb=>?_⟩<;>(try simp only [nrm] at hb)<;>try exact kZ hb)|refine kV ?_)<;>(conv=>whnf))|refine kY ?_ ?_)
    all_goals first|rfl|omega|(rw [hs1];exact List.take_of_length_le (by omega))|rw [hs1]|trace_state
   ·rw [e] at hf hs1
    dsimp only at hf hs1
    have hSO : ∀ o ∈ b7 (elt .orders l k),OkO o:=fun o ho=>hb.2 o (lB ho)
    have hSl:=lC (elt .orders l k)
    have hcE : bY (V (k + 1)) = d8 (bw (V k) (b7 (elt .orders l k))).1:=by
     rw [hs1,jU (i_ (mv hR) ⟨by have:=hR.size;omega,by omega⟩)];rfl
    have hc0 : bY (V k) = d8 (V k):=jU hR
    have hrl : (bw (V k) (b7 (elt .orders l k))).2.length ≤ 1000:=by rw [vn];omega
    generalize b7 (elt .orders l k) = S at *
    obtain ⟨W,H,w0,h0,hE,hHl,hst⟩:=KR hR S hSO
    rw [← hE] at hcE
    rw [← h0] at hc0
    generalize (bw (V k) S).2 = Q at *
    generalize cg (bw (V k) S).1 ((V k).tick + 1) = Nx at *
    have hH0:=hHl 0 (by omega)
    conv=>whnf
    repeat' (first|exact trivial|((first|(refine ⟨fun hb=>?_,fun hb=>?_⟩<;>(try simp only [nrm] at hb)<;>try exact kZ hb)|refine kV ?_)<;>(conv=>whnf))|refine kY ?_ ?_)
    refine ap.loopS ah (σ:=Nat) [1,2,5,6,7,8,11,12,13] (fun j=>[.vec .orders l,.ptr 4 0,.ptr 10 0,.own .i64 150001 0 13 none,i64 k,.ptr 16 0,.ptr 22 0,.vec .order S,i64 j])
     (fun j=>[(4,.box (bA (V k))),(10,.box eX),(16,.box (bA Nx)),(22,.box (bA (W j))),(150001,.row .i64 (H j))]) (fun j=>j ≤ S.length) (fun j=>S.length - j) 0 (by omega) ?_ ?_
    ·conv=>whnf
     repeat' (first|exact trivial|((first|(refine ⟨fun hb=>?_,fun hb=>?_⟩<;>(try simp only [nrm] at hb)<;>try exact kZ hb)|refine kV ?_)<;>(conv=>whnf))|refine kY ?_ ?_)
     all_goals first|rfl|omega|rw [w0]|(rw [← hc0];exact List.take_of_length_le (by omega))|trace_state
    ·intro j hj
     have hHj:=hHl j hj
     by_cases hlj : j < S.length
     ·obtain ⟨D,e,X,hD,hA,hDl,x0,xE,xl,xs,xb⟩:=hst j hlj
      have hHj1:=hHl (j + 1) (by omega)
      conv=>whnf
      repeat' (first|exact trivial|((first|(refine ⟨fun hb=>?_,fun hb=>?_⟩<;>(try simp only [nrm] at hb)<;>try exact kZ hb)|refine kV ?_)<;>(conv=>whnf))|refine kY ?_ ?_)
      refine ap.loopS ah (σ:=Nat) [1,2,5,6,7,8,11,12,13,14,15] (fun i=>[.vec .orders l,.ptr 4 0,.ptr 10 0,.own .i64 150001 0 13 none,i64 k,.ptr 16 0,.ptr 22 0,.vec .order S,i64 j,.vec .i64 D,i64 i])
       (fun i=>[(4,.box (bA (V k))),(10,.box eX),(16,.box (bA Nx)),(22,.box (bA (W j))),(150001,.row .i64 (X i))]) (fun i=>i ≤ 13) (fun i=>13 - i) 0 (by omega) ?_ ?_
      ·conv=>whnf
       repeat' (first|exact trivial|((first|(refine ⟨fun hb=>?_,fun hb=>?_⟩<;>(try simp only [nrm] at hb)<;>try exact kZ hb)|refine kV ?_)<;>(conv=>whnf))|refine kY ?_ ?_)
       all_goals first|rfl|omega|(rw [x0];exact List.take_of_length_le (by omega))|trace_state
      ·intro i hi
       have hxl:=xl i hi
       by_cases hli : i < 13
       ·have hxb:=xb i hli
        have hxs:=xs i hli
        have hxl1:=xl (i + 1) (by omega)
        have hxb2 : inN 288230376151711744 (elt .i64 (X i) ((i : Int).toNat + 0)) ∧ inN 288230376151711744 ((elt .i64 (X i) ((i : Int).toNat + 0) : Int) + elt .i64 D (i : Int).toNat):=hxb
        have hxs2 : (X i).set ((i : Int).toNat + 0) ((elt .i64 (X i) ((i : Int).toNat + 0) : Int) + elt .i64 D (i : Int).toNat) = X (i + 1):=hxs
        unfold inN at hxb2
        conv=>whnf
        repeat' (first|exact trivial|((first|(refine ⟨fun hb=>?_,fun hb=>?_⟩<;>(try simp only [nrm] at hb)<;>try exact kZ hb)|refine kV ?_)<;>(conv=>whnf))|refine kY ?_ ?_)
        refine .to (i + 1) (by omega) (by omega) ?_
        conv=>whnf
        repeat' (first|exact trivial|((first|(refine ⟨fun hb=>?_,fun hb=>?_⟩<;>(try simp only [nrm] at hb)<;>try exact kZ hb)|refine kV ?_)<;>(conv=>whnf))|refine kY ?_ ?_)
        all_goals first|rfl|omega|(rw [hxs2];exact List.take_of_length_le (by omega))|(rw [hxs2];omega)|(rw [List.length_set];omega)|trace_state
       ·obtain rfl : i = 13:=by omega
        conv=>whnf
        repeat' (first|exact trivial|((first|(refine ⟨fun hb=>?_,fun hb=>?_⟩<;>(try simp only [nrm] at hb)<;>try exact kZ hb)|refine kV ?_)<;>(conv=>whnf))|refine kY ?_ ?_)
        refine .to (j + 1) (by omega) (by omega) ?_
        conv=>whnf
        repeat' (first|exact trivial|((first|(refine ⟨fun hb=>?_,fun hb=>?_⟩<;>(try simp only [nrm] at hb)<;>try exact kZ hb)|refine kV ?_)<;>(conv=>whnf))|refine kY ?_ ?_)
        all_goals first|rfl|omega|(rw [xE];exact List.take_of_length_le (by omega))|trace_state
     ·obtain rfl : j = S.length:=by omega
      conv=>whnf
      repeat' (first|exact trivial|((first|(refine ⟨fun hb=>?_,fun hb=>?_⟩<;>(try simp only [nrm] at hb)<;>try exact kZ hb)|refine kV ?_)<;>(conv=>whnf))|refine kY ?_ ?_)
      refine .to (k + 1) (by omega) (by omega) ?_
      conv=>whnf
      repeat' (first|exact trivial|((first|(refine ⟨fun hb=>?_,fun hb=>?_⟩<;>(try simp only [nrm] at hb)<;>try exact kZ hb)|refine kV ?_)<;>(conv=>whnf))|refine kY ?_ ?_)
      all_goals first|rfl|omega|(rw [hcE];exact List.take_of_length_le (by omega))|rw [hs1]|trace_state
  ·have hke : k = l.length:=by omega
   clear hlt hk
   subst hke
   conv=>whnf
   repeat' (first|exact trivial|((first|(refine ⟨fun hb=>?_,fun hb=>?_⟩<;>(try simp only [nrm] at hb)<;>try exact kZ hb)|refine kV ?_)<;>(conv=>whnf))|refine kY ?_ ?_)
   all_goals first|rfl|omega|exact List.take_of_length_le (by omega)|(rw [List.drop_zero];exact List.take_of_length_le (by omega))|trace_state
end Go.Proofs.YtkojlembanldcaaGreat
