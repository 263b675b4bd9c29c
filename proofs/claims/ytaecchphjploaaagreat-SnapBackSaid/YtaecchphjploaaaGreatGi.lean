/- Closures as results; contracts of view. -/
import Derived.Test.YtaecchphjploaaaGreatGg
import Derived.Test.YtaecchphjploaaaGreatGc
import Derived.Test.YtaecchphjploaaaGreatGe
set_option linter.unusedSimpArgs false
set_option linter.unusedVariables false
set_option maxRecDepth 100000
set_option maxHeartbeats 16000000
namespace Go.Proofs.YtaecchphjploaaaGreat
open Go Go.RowKit Eng
def nearB (a b r : Int) : Bool:=decide (max (a - b) (b - a) ≤ r)
theorem sight1_ev (a b r : Int) (ha : -1000 ≤ a ∧ a ≤ 1000) (hb : -1000 ≤ b ∧ b ≤ 1000) : Ev1 Tryz.prog 185 [i64 a,i64 b,.ptr 0 0] [(0,.box [i64 r])] (bol (nearB a b r)) [(0,.box [i64 r])]:=by
 refine eF Tryz.func185 12 ?_
 exact fD0
def seesB (p : Player) (r x y : Int) : Bool:=nearB (p.x / 8) x r && nearB (p.y / 8) y r
theorem sight2_ev (p : Player) (r x y : Int) (hx : 0 ≤ p.x ∧ p.x ≤ 1000) (hy : 0 ≤ p.y ∧ p.y ≤ 1000) (h1 : -1000 ≤ x ∧ x ≤ 1000) (h2 : -1000 ≤ y ∧ y ≤ 1000) : Ev1 Tryz.prog 186 [i64 x,i64 y,.ptr 0 0,.ptr 2 0] [(0,.box [.clo (.func 185) [] [.ptr 4 0]]),(2,.box (playerC p)),(4,.box [i64 r])] (bol (seesB p r x y)) [(0,.box [.clo (.func 185) [] [.ptr 4 0]]),(2,.box (playerC p)),(4,.box [i64 r])]:=by
 have s1:=sight1_ev (p.x / 8) x r (by omega) h1
 have s2:=sight1_ev (p.y / 8) y r (by omega) h2
 unfold seesB
 cases e1 : nearB (p.x / 8) x r
 all_goals
  cases e2 : nearB (p.y / 8) y r
  all_goals
   rw [e1] at s1
   rw [e2] at s2
   refine eF Tryz.func186 17 ?_
   conv=>whnf
   repeat' (first|exact trivial|((first|refine kL ?_|(refine ⟨fun hb=>?_,fun hb=>?_⟩<;>(try simp only [nrm] at hb)<;>try exact kZ hb)|refine kE s1 [(0,4)] rfl ?_|refine kF s1 [(0,4)] rfl ?_|refine kE s2 [(0,4)] rfl ?_|refine kF s2 [(0,4)] rfl ?_|refine kV ?_)<;>(conv=>whnf))|refine kY ?_ ?_)
 all_goals first|rfl|trace_state
abbrev sightF (a b : Nat) : AV:=.clo (.func 186) [] [.ptr a 0,.ptr b 0]
abbrev sightM (p : Player) (r : Int) (a b c : Nat) : Mem:=[(a,.box [.clo (.func 185) [] [.ptr c 0]]),(b,.box (playerC p)),(c,.box [i64 r])]
theorem sight_ev (p : Player) (r : Int) : Ev1 Tryz.prog 158 [playerV p,i64 r] [] (sightF 390001 390003) (sightM p r 390001 390003 390005):=by
 refine Ev1.of_finR cfg_ok Tryz.func158 rfl [(200010,390001),(200004,390003),(200006,390005)] (nt:=6) rfl ?_
 exact fD0
def zeroP : Player:=⟨0,0,0,[],0,[],false⟩
def playerW (w : Wld) (id : Int) : Player × Bool:=
 if rightW w = false then (zeroP,false) else match getK pid w.players id with
  | some p=>(p,true)
  | none=>(zeroP,false)
theorem wplayer_api (w : Wld) (id : Int) (hw : OkW w) : Api Tryz.prog 26 [wldV w,i64 id] (.tup [playerV (playerW w id).1,bol (playerW w id).2]):=by
 have hnp:=hw.np
 have hrt:=rightW_api w hw
 have hsk:=seek_api w id (by omega)
 cases hR : rightW w with
 | false =>
  rw [hR] at hrt
  have hs : playerW w id = (zeroP,false):=by unfold playerW;rw [if_pos hR]
  rw [hs]
  refine aF Tryz.func26 25 ?_
  exact fD0
 | true =>
  rw [hR] at hrt
  obtain ⟨hri,_,_,_⟩:=rightW_players hR
  obtain ⟨e1,e2⟩:=bsP_rises hri id
  rw [e1,e2] at hsk
  cases hg : getK pid w.players id with
  | none =>
   rw [hg] at hsk
   have hs : playerW w id = (zeroP,false):=by unfold playerW;rw [if_neg (by rw [hR];simp),hg]
   rw [hs]
   refine aF Tryz.func26 25 ?_
   exact fD0
  | some p =>
   rw [hg] at hsk
   have hs : playerW w id = (p,true):=by unfold playerW;rw [if_neg (by rw [hR];simp),hg]
   rw [hs]
   obtain ⟨h1,h2⟩:=lbK_lt hri hg
   have h3 : elt .player w.players (lbK pid id w.players) = p:=by
    have:=elt_get .player w.players _ h1
    rw [h2] at this
    exact (Option.some.inj this).symm
   have hal:=alone_api p (hw.players p (getK_mem hg).1)
   generalize lbK pid id w.players = at_ at *
   subst h3
   refine aF Tryz.func26 25 ?_
   exact fD0
open Go Go.RowKit Eng
abbrev viewC (v : Viw) : List AV:=[i64 v.tick,i64 v.me.id,i64 v.me.x,i64 v.me.y,.vec .slot v.me.bag,i64 v.me.wth,.vec .slot v.me.offer,bol v.me.agrees,.vec .chunk v.chunks,.vec .seen v.others]
abbrev viewV (v : Viw) : AV:=.agg [i64 v.tick,i64 v.me.id,i64 v.me.x,i64 v.me.y,.vec .slot v.me.bag,i64 v.me.wth,.vec .slot v.me.offer,bol v.me.agrees,.vec .chunk v.chunks,.vec .seen v.others]
def zeroV : Viw:=⟨0,zeroP,[],[]⟩
abbrev viewO (t : Int) (p : Player) (a n : Nat) (b m : Nat) : List AV:=[i64 t,i64 p.id,i64 p.x,i64 p.y,.vec .slot p.bag,i64 p.wth,.vec .slot p.offer,bol p.agrees,.own .chunk a 0 n none,.own .seen b 0 m none]
def rowV (w : Wld) (p : Player) (r : Int) (y : Nat) (k : Nat) : List Chunk:=((List.range k).filter fun x=>seesB p r (x : Nat) (y : Nat)).map fun x=>(chunkW w (x : Nat) (y : Nat)).1
theorem rowV_succ (w : Wld) (p : Player) (r : Int) (y k : Nat) : rowV w p r y (k + 1) = rowV w p r y k ++ (if seesB p r (k : Nat) (y : Nat) = true then [(chunkW w (k : Nat) (y : Nat)).1] else []):=by
 unfold rowV
 rw [List.range_succ,List.filter_append,List.map_append]
 congr 1
 by_cases h : seesB p r (k : Nat) (y : Nat) = true<;>simp [List.filter,h]
theorem rowV_len (w : Wld) (p : Player) (r : Int) (y k : Nat) : (rowV w p r y k).length ≤ k:=by
 unfold rowV
 rw [List.length_map]
 exact Nat.le_trans (List.length_filter_le _ _) (by simp)
def rowsV (w : Wld) (p : Player) (r : Int) (s : Nat) : Nat → List Chunk
 | 0=>[]
 | y + 1=>rowsV w p r s y ++ rowV w p r y s
theorem rowsV_len (w : Wld) (p : Player) (r : Int) (s y : Nat) : (rowsV w p r s y).length ≤ y * s:=by
 induction y with
 | zero=>simp [rowsV]
 | succ y ih=>have:=rowV_len w p r y s;rw [rowsV,List.length_append,Nat.succ_mul];omega
theorem rowsV_bd (w : Wld) (p : Player) (r : Int) {s y k : Nat} (hs : s ≤ 16) (hy : y ≤ s) (hk : k ≤ s) : (rowsV w p r s y ++ rowV w p r y k).length ≤ 272:=by
 have h1:=rowsV_len w p r s y
 have h2:=rowV_len w p r y k
 have h3 : y * s ≤ 16 * 16:=Nat.mul_le_mul (by omega) hs
 rw [List.length_append];omega
def accV (w : Wld) (p : Player) (r : Int) (S y x : Nat) : List Chunk:=rowsV w p r S y ++ rowV w p r y x
theorem accV_zero (w : Wld) (p : Player) (r : Int) (S y : Nat) : accV w p r S y 0 = rowsV w p r S y:=by unfold accV rowV;simp
theorem accV_end (w : Wld) (p : Player) (r : Int) (S y : Nat) : accV w p r S y S = rowsV w p r S (y + 1):=rfl
theorem accV_yes {w : Wld} {p : Player} {r : Int} {S y x : Nat} (h : seesB p r (x : Nat) (y : Nat) = true) : accV w p r S y (x + 1) = accV w p r S y x ++ [(chunkW w (x : Nat) (y : Nat)).1]:=by
 unfold accV;rw [rowV_succ,if_pos h,List.append_assoc]
theorem accV_no {w : Wld} {p : Player} {r : Int} {S y x : Nat} (h : seesB p r (x : Nat) (y : Nat) = false) : accV w p r S y (x + 1) = accV w p r S y x:=by
 unfold accV;rw [rowV_succ,if_neg (by rw [h];simp),List.append_nil]
def othB (p : Player) (r id : Int) (q : Player) : Bool:=!(decide (q.id = id)) && seesB p r (q.x / 8) (q.y / 8)
def seenP (q : Player) : Seen:=⟨q.id,q.x,q.y⟩
def othV (l : List Player) (p : Player) (r id : Int) (k : Nat) : List Seen:=((l.take k).filter (othB p r id)).map seenP
theorem othV_succ {l : List Player} {p : Player} {r id : Int} {k : Nat} (h : k < l.length) : othV l p r id (k + 1) = othV l p r id k ++ (if othB p r id (elt .player l k) = true then [seenP (elt .player l k)] else []):=by
 unfold othV
 rw [List.take_add_one,elt_get .player l k h,Option.toList_some,List.filter_append,List.map_append]
 congr 1
 by_cases h : othB p r id (elt .player l k) = true<;>simp [List.filter,h]
theorem othV_len (l : List Player) (p : Player) (r id : Int) (k : Nat) : (othV l p r id k).length ≤ l.length:=by
 unfold othV
 rw [List.length_map]
 exact Nat.le_trans (List.length_filter_le _ _) (List.length_take_le' _ _)
def ofW (w : Wld) (id r : Int) : Viw × Int:=
 if r < 0 ∨ 3 < r then (zeroV,2)
 else if rightW w = false then (zeroV,113)
 else if (playerW w id).2 = false then (zeroV,110)
 else (⟨w.tick,(playerW w id).1,rowsV w (playerW w id).1 r w.size.toNat w.size.toNat,othV w.players (playerW w id).1 r id w.players.length⟩,0)
theorem within_bd {w : Wld} (hR : RW w) {p : Player} (hp : p ∈ w.players) : 0 ≤ p.x ∧ p.x < 128 ∧ 0 ≤ p.y ∧ p.y < 128:=by
 have h1:=(within_iff hR).1 (hR.players p hp).2
 have h2:=hR.size
 omega
theorem viewOf_api (w : Wld) (id r : Int) (hw : OkW w) : Api Tryz.prog 94 [wldV w,i64 id,i64 r] (.tup [viewV (ofW w id r).1,i64 (ofW w id r).2]):=by
 have hrt:=rightW_api w hw
 have hpl:=wplayer_api w id hw
 have hnp:=hw.np
 by_cases hr : r < 0 ∨ 3 < r
 ·have hs : ofW w id r = (zeroV,2):=by unfold ofW;rw [if_pos hr]
  rw [hs]
  refine aF Tryz.func94 108 ?_
  exact fD0
 ·cases hR : rightW w with
  | false =>
   rw [hR] at hrt
   have hs : ofW w id r = (zeroV,113):=by unfold ofW;rw [if_neg hr,if_pos hR]
   rw [hs]
   refine aF Tryz.func94 108 ?_
   exact fD0
  | true =>
   rw [hR] at hrt
   have hRW:=rightW_iff.1 hR
   have hsz:=hRW.size
   cases hP : (playerW w id).2 with
   | false =>
    rw [hP] at hpl
    have hs : ofW w id r = (zeroV,110):=by unfold ofW;rw [if_neg hr,if_neg (by rw [hR];simp),if_pos hP]
    rw [hs]
    refine aF Tryz.func94 108 ?_
    exact fD0
   | true =>
    rw [hP] at hpl
    have hs : ofW w id r = (⟨w.tick,(playerW w id).1,rowsV w (playerW w id).1 r w.size.toNat w.size.toNat,othV w.players (playerW w id).1 r id w.players.length⟩,0):=by unfold ofW;rw [if_neg hr,if_neg (by rw [hR];simp),if_neg (by rw [hP];simp)]
    rw [hs]
    have hmem : (playerW w id).1 ∈ w.players:=by
     unfold playerW at hP ⊢
     rw [if_neg (by rw [hR];simp)] at hP ⊢
     split
     ·rename_i p hg;exact (getK_mem hg).1
     ·rename_i hg;rw [hg] at hP;simp at hP
    have hpb:=within_bd hRW hmem
    generalize (playerW w id).1 = p at *
    obtain ⟨S,hS⟩ : ∃ S : Nat,w.size = S:=⟨w.size.toNat,by omega⟩
    rw [hS,Int.toNat_natCast]
    have hsi:=sight_ev p r
    have hch : ∃ G : Nat → Nat → Chunk,(∀ x y : Nat,G x y = (chunkW w (x : Nat) (y : Nat)).1) ∧ ∀ x y : Nat,x < S → y < S → Api Tryz.prog 15 [wldV w,i64 (x : Nat),i64 (y : Nat)] (.tup [chunkV (G x y),bol true]):=
     ⟨fun x y=>(chunkW w (x : Nat) (y : Nat)).1,fun x y=>rfl,fun x y hx hy=>by
      have h:=wchunk_api w (x : Nat) (y : Nat) hw
      rw [show (chunkW w (x : Nat) (y : Nat)).2 = true by rw [(chunkW_in hRW (x:=x) (y:=y) (by omega) (by omega)).1]] at h
      exact h⟩
    obtain ⟨G,hG,hch⟩:=hch
    have hF : ∃ F : Nat → Nat → List Chunk,(∀ y,F y 0 = rowsV w p r S y) ∧ (∀ y,F y S = rowsV w p r S (y + 1)) ∧ (∀ y x : Nat,seesB p r (x : Nat) (y : Nat) = true → F y (x + 1) = F y x ++ [G x y]) ∧ (∀ y x : Nat,seesB p r (x : Nat) (y : Nat) = false → F y (x + 1) = F y x) ∧ (∀ y x : Nat,y ≤ S → x ≤ S → (F y x).length ≤ 272):=
     ⟨accV w p r S,fun y=>accV_zero w p r S y,fun y=>accV_end w p r S y,fun y x h=>by rw [accV_yes h,hG],fun y x h=>accV_no h,fun y x hy hx=>rowsV_bd w p r (s:=S) (y:=y) (k:=x) (by omega) (by omega) hx⟩
    obtain ⟨F,f0,f1,f2,f3,f4⟩:=hF
    have hRl : ∀ y,(rowsV w p r S y).length ≤ y * S:=rowsV_len w p r S
    have hO : ∃ O : Nat → List Seen,O 0 = [] ∧ (∀ k,k < w.players.length → O (k + 1) = O k ++ (if othB p r id (elt .player w.players k) = true then [seenP (elt .player w.players k)] else [])) ∧ (∀ k,(O k).length ≤ w.players.length) ∧ O w.players.length = othV w.players p r id w.players.length:=
     ⟨othV w.players p r id,rfl,fun k hk=>othV_succ hk,fun k=>othV_len w.players p r id k,rfl⟩
    obtain ⟨O,o0,o1,o2,o3⟩:=hO
    rw [← o3]
    have hR0 : rowsV w p r S 0 = []:=rfl
    generalize rowsV w p r S = R at *
    clear o3 hG
    refine aF Tryz.func94 108 ?_
    conv=>whnf
    repeat' (first|exact trivial|((first|refine kL ?_|(refine ⟨fun hb=>?_,fun hb=>?_⟩<;>(try simp only [nrm] at hb)<;>try exact kZ hb)|refine kE hsi [(390001,150101),(390003,150103),(390005,150105)] rfl ?_|refine kF hsi [(390001,150101),(390003,150103),(390005,150105)] rfl ?_|refine kV ?_)<;>(conv=>whnf))|refine kY ?_ ?_)
    all_goals try omega
    refine Runs.loopQ cfg_ok (σ:=Nat) [1,3,6,10,11,48,49] (fun y=>[i64 id,.ptr 6 0,.ptr 12 0,.ptr 20 0,sightF 150101 150103,i64 S,i64 y])
     (fun y=>(6,.box (wldC w)) :: (12,.box (viewC zeroV)) :: (20,.box (viewO w.tick p 150001 (R y).length 150003 0)) :: (150001,.row .chunk (R y)) :: (150003,.row .seen []) :: sightM p r 150101 150103 150105)
     (fun y=>y ≤ S) (fun y=>S - y) 0 (by omega) ?_ ?_
    ·conv=>whnf
     repeat' (first|exact trivial|((first|(refine ⟨fun hb=>?_,fun hb=>?_⟩<;>(try simp only [nrm] at hb)<;>try exact kZ hb)|refine kV ?_)<;>(conv=>whnf))|refine kY ?_ ?_)
     all_goals first|rfl|omega|(rw [hR0];done)|(rw [hR0];rfl)|trace_state
    ·intro y hy N1 hN1 hE1 hT1
     by_cases hlt : y < S
     ·have hz:=f0 y
      conv=>whnf
      repeat' (first|exact trivial|((first|(refine ⟨fun hb=>?_,fun hb=>?_⟩<;>(try simp only [nrm] at hb)<;>try exact kZ hb)|refine kV ?_)<;>(conv=>whnf))|refine kY ?_ ?_)
      refine Runs.loopQ cfg_ok (σ:=Nat) [1,3,6,10,11,12,48,49,53,54] (fun x=>[i64 id,.ptr 6 0,.ptr 12 0,.ptr 20 0,sightF 150101 150103,i64 y,i64 S,i64 y,i64 S,i64 x])
       (fun x=>(6,.box (wldC w)) :: (12,.box (viewC zeroV)) :: (20,.box (viewO w.tick p 150001 (F y x).length 150003 0)) :: (150001,.row .chunk (F y x)) :: (150003,.row .seen []) :: sightM p r 150101 150103 150105)
       (fun x=>x ≤ S) (fun x=>S - x) 0 (by omega) ?_ ?_
      ·conv=>whnf
       repeat' (first|exact trivial|((first|(refine ⟨fun hb=>?_,fun hb=>?_⟩<;>(try simp only [nrm] at hb)<;>try exact kZ hb)|refine kV ?_)<;>(conv=>whnf))|refine kY ?_ ?_)
       all_goals first|rfl|omega|(rw [hz];done)|(rw [hz];exact List.take_length)|trace_state
      ·intro x hx N2 hN2 hE2 hT2
       by_cases hlx : x < S
       ·have hd : (F y x).length ≤ 272:=f4 y x hy hx
        have hcl:=sight2_ev p r x y (by omega) (by omega) (by omega) (by omega)
        have hch:=hch x y hlx hlt
        cases hq : seesB p r x y with
        | true =>
         rw [hq] at hcl
         have hsu:=f2 y x hq
         conv=>whnf
         repeat' (first|exact trivial|((first|refine kL ?_|(refine ⟨fun hb=>?_,fun hb=>?_⟩<;>(try simp only [nrm] at hb)<;>try exact kZ hb)|refine kE hcl [(0,150101),(2,150103),(4,150105)] rfl ?_|refine kF hcl [(0,150101),(2,150103),(4,150105)] rfl ?_|refine kV ?_)<;>(conv=>whnf))|refine kY ?_ ?_)
         refine hN2 _ _ ?_
         conv=>whnf
         refine .to (x + 1) (by omega) (by omega) ?_
         conv=>whnf
         repeat' (first|exact trivial|((first|(refine ⟨fun hb=>?_,fun hb=>?_⟩<;>(try simp only [nrm] at hb)<;>try exact kZ hb)|refine kV ?_)<;>(conv=>whnf))|refine kY ?_ ?_)
         all_goals first|rfl|omega|(rw [hsu];simp;done)|(rw [hsu];exact List.take_of_length_le (by simp))|(rw [hsu,List.take_of_length_le (by simp),List.take_of_length_le (by simp)];rfl)|(rw [hsu,List.take_of_length_le (by simp)];simp;done)|(rw [hsu];simp;trace_state)
        | false =>
         rw [hq] at hcl
         have hsu:=f3 y x hq
         conv=>whnf
         repeat' (first|exact trivial|((first|refine kL ?_|(refine ⟨fun hb=>?_,fun hb=>?_⟩<;>(try simp only [nrm] at hb)<;>try exact kZ hb)|refine kE hcl [(0,150101),(2,150103),(4,150105)] rfl ?_|refine kF hcl [(0,150101),(2,150103),(4,150105)] rfl ?_|refine kV ?_)<;>(conv=>whnf))|refine kY ?_ ?_)
         refine hN2 _ _ ?_
         conv=>whnf
         refine .to (x + 1) (by omega) (by omega) ?_
         conv=>whnf
         repeat' (first|exact trivial|((first|(refine ⟨fun hb=>?_,fun hb=>?_⟩<;>(try simp only [nrm] at hb)<;>try exact kZ hb)|refine kV ?_)<;>(conv=>whnf))|refine kY ?_ ?_)
         all_goals first|rfl|omega|(rw [hsu];done)|(rw [hsu];exact List.take_length)|trace_state
       ·obtain rfl : x = S:=by omega
        have hsu:=f1 y
        conv=>whnf
        repeat' (first|exact trivial|((first|(refine ⟨fun hb=>?_,fun hb=>?_⟩<;>(try simp only [nrm] at hb)<;>try exact kZ hb)|refine kV ?_)<;>(conv=>whnf))|refine kY ?_ ?_)
        refine hE2 _ _ _ ?_
        conv=>whnf
        repeat' (first|exact trivial|((first|(refine ⟨fun hb=>?_,fun hb=>?_⟩<;>(try simp only [nrm] at hb)<;>try exact kZ hb)|refine kV ?_)<;>(conv=>whnf))|refine kY ?_ ?_)
        refine hN1 _ _ ?_
        conv=>whnf
        refine .to (y + 1) (by omega) (by omega) ?_
        conv=>whnf
        repeat' (first|exact trivial|((first|(refine ⟨fun hb=>?_,fun hb=>?_⟩<;>(try simp only [nrm] at hb)<;>try exact kZ hb)|refine kV ?_)<;>(conv=>whnf))|refine kY ?_ ?_)
        all_goals first|rfl|omega|(rw [hsu];done)|(rw [hsu];exact List.take_length)|trace_state
     ·obtain rfl : y = S:=by omega
      have hln:=hRl y
      have hln2 : y * y ≤ 16 * 16:=Nat.mul_le_mul (by omega) (by omega)
      conv=>whnf
      repeat' (first|exact trivial|((first|(refine ⟨fun hb=>?_,fun hb=>?_⟩<;>(try simp only [nrm] at hb)<;>try exact kZ hb)|refine kV ?_)<;>(conv=>whnf))|refine kY ?_ ?_)
      refine hE1 _ _ _ ?_
      conv=>whnf
      repeat' (first|exact trivial|((first|(refine ⟨fun hb=>?_,fun hb=>?_⟩<;>(try simp only [nrm] at hb)<;>try exact kZ hb)|refine kV ?_)<;>(conv=>whnf))|refine kY ?_ ?_)
      refine Runs.loopQ cfg_ok (σ:=Nat) [1,6,10,11,77,78,79] (fun k=>[i64 id,.ptr 12 0,.ptr 20 0,sightF 150101 150103,.vec .player w.players,i64 w.players.length,i64 k])
       (fun k=>(12,.box (viewC zeroV)) :: (20,.box (viewO w.tick p 150001 (R y).length 150003 (O k).length)) :: (150001,.row .chunk (R y)) :: (150003,.row .seen (O k)) :: sightM p r 150101 150103 150105)
       (fun k=>k ≤ w.players.length) (fun k=>w.players.length - k) 0 (by omega) ?_ ?_
      ·conv=>whnf
       repeat' (first|exact trivial|((first|(refine ⟨fun hb=>?_,fun hb=>?_⟩<;>(try simp only [nrm] at hb)<;>try exact kZ hb)|refine kV ?_)<;>(conv=>whnf))|refine kY ?_ ?_)
       all_goals first|rfl|omega|exact List.take_length|(rw [o0];done)|(rw [o0];rfl)|trace_state
      ·intro k hk N3 hN3 hE3 hT3
       have hol:=o2 k
       by_cases hlk : k < w.players.length
       ·have hqb:=within_bd hRW (elt_mem (t:=.player) hlk)
        have hcl:=sight2_ev p r ((elt .player w.players k).x / 8) ((elt .player w.players k).y / 8) (by omega) (by omega) (by omega) (by omega)
        have hqc : 0 ≤ (elt .player w.players ((k : Nat) : Int).toNat).x ∧ (elt .player w.players ((k : Nat) : Int).toNat).x < 128 ∧ 0 ≤ (elt .player w.players ((k : Nat) : Int).toNat).y ∧ (elt .player w.players ((k : Nat) : Int).toNat).y < 128:=hqb
        have hsu:=o1 k hlk
        have hln3:=o2 k
        by_cases hid : (elt .player w.players k).id = id
        ·rw [if_neg (by unfold othB;rw [decide_eq_true hid];simp),List.append_nil] at hsu
         conv=>whnf
         repeat' (first|exact trivial|((first|refine kL ?_|(refine ⟨fun hb=>?_,fun hb=>?_⟩<;>(try simp only [nrm] at hb)<;>try exact kZ hb)|refine kE hcl [(0,150101),(2,150103),(4,150105)] rfl ?_|refine kF hcl [(0,150101),(2,150103),(4,150105)] rfl ?_|refine kV ?_)<;>(conv=>whnf))|refine kY ?_ ?_)
         refine hN3 _ _ ?_
         conv=>whnf
         refine .to (k + 1) (by omega) (by omega) ?_
         conv=>whnf
         repeat' (first|exact trivial|((first|(refine ⟨fun hb=>?_,fun hb=>?_⟩<;>(try simp only [nrm] at hb)<;>try exact kZ hb)|refine kV ?_)<;>(conv=>whnf))|refine kY ?_ ?_)
         all_goals first|rfl|omega|exact List.take_length|(rw [hsu];done)|(rw [hsu];exact List.take_length)|trace_state
        ·cases hq : seesB p r ((elt .player w.players k).x / 8) ((elt .player w.players k).y / 8) with
         | false =>
          rw [if_neg (by unfold othB;rw [hq,Bool.and_false];simp),List.append_nil] at hsu
          rw [hq] at hcl
          conv=>whnf
          repeat' (first|exact trivial|((first|refine kL ?_|(refine ⟨fun hb=>?_,fun hb=>?_⟩<;>(try simp only [nrm] at hb)<;>try exact kZ hb)|refine kE hcl [(0,150101),(2,150103),(4,150105)] rfl ?_|refine kF hcl [(0,150101),(2,150103),(4,150105)] rfl ?_|refine kV ?_)<;>(conv=>whnf))|refine kY ?_ ?_)
          refine hN3 _ _ ?_
          conv=>whnf
          refine .to (k + 1) (by omega) (by omega) ?_
          conv=>whnf
          repeat' (first|exact trivial|((first|(refine ⟨fun hb=>?_,fun hb=>?_⟩<;>(try simp only [nrm] at hb)<;>try exact kZ hb)|refine kV ?_)<;>(conv=>whnf))|refine kY ?_ ?_)
          all_goals first|rfl|omega|exact List.take_length|(rw [hsu];done)|(rw [hsu];exact List.take_length)|trace_state
         | true =>
          rw [if_pos (by unfold othB;rw [hq,decide_eq_false hid];rfl)] at hsu
          rw [hq] at hcl
          conv=>whnf
          repeat' (first|exact trivial|((first|refine kL ?_|(refine ⟨fun hb=>?_,fun hb=>?_⟩<;>(try simp only [nrm] at hb)<;>try exact kZ hb)|refine kE hcl [(0,150101),(2,150103),(4,150105)] rfl ?_|refine kF hcl [(0,150101),(2,150103),(4,150105)] rfl ?_|refine kV ?_)<;>(conv=>whnf))|refine kY ?_ ?_)
          refine hN3 _ _ ?_
          conv=>whnf
          refine .to (k + 1) (by omega) (by omega) ?_
          conv=>whnf
          repeat' (first|exact trivial|((first|(refine ⟨fun hb=>?_,fun hb=>?_⟩<;>(try simp only [nrm] at hb)<;>try exact kZ hb)|refine kV ?_)<;>(conv=>whnf))|refine kY ?_ ?_)
          all_goals first|rfl|omega|exact List.take_length|(rw [hsu];simp;done)|(rw [hsu];exact List.take_of_length_le (by simp))|(rw [hsu,List.take_of_length_le (by simp),List.take_of_length_le (by simp),List.take_of_length_le (by simp)];rfl)|trace_state
       ·obtain rfl : k = w.players.length:=by omega
        conv=>whnf
        repeat' (first|exact trivial|((first|(refine ⟨fun hb=>?_,fun hb=>?_⟩<;>(try simp only [nrm] at hb)<;>try exact kZ hb)|refine kV ?_)<;>(conv=>whnf))|refine kY ?_ ?_)
        refine hE3 _ _ _ ?_
        exact fD0
open Go Go.RowKit Eng
theorem nearB_iff {a b r : Int} : nearB a b r = true ↔ a - b ≤ r ∧ b - a ≤ r:=by
 unfold nearB;rw [decide_eq_true_eq];omega
def cntI (a r : Int) (k : Nat) : Nat:=((List.range k).filter fun x=>nearB a (x : Nat) r).length
theorem cnt_eq (a r : Int) (k : Nat) (h0 : 0 ≤ a) (hr : 0 ≤ r) : (cntI a r k : Int) = max 0 (min (a + r) (k - 1) - max (a - r) 0 + 1):=by
 induction k with
 | zero=>simp [cntI];omega
 | succ k ih =>
  have hc : cntI a r (k + 1) = cntI a r k + (if nearB a (k : Nat) r = true then 1 else 0):=by
   unfold cntI
   rw [List.range_succ,List.filter_append,List.length_append]
   congr 1
   by_cases h : nearB a (k : Nat) r = true<;>simp [List.filter,h]
  rw [hc]
  by_cases h : nearB a (k : Nat) r = true
  ·rw [if_pos h];rw [nearB_iff] at h;omega
  ·rw [if_neg h];rw [nearB_iff] at h;omega
theorem cnt_side {a r : Int} {S : Nat} (h0 : 0 ≤ a) (hr : 0 ≤ r) (hS : a < S) : (cntI a r S : Int) = min (a + r) (S - 1) - max (a - r) 0 + 1:=by
 rw [cnt_eq a r S h0 hr];omega
theorem rowV_cnt (w : Wld) (p : Player) (r : Int) (y k : Nat) : (rowV w p r y k).length = if nearB (p.y / 8) (y : Nat) r = true then cntI (p.x / 8) r k else 0:=by
 unfold rowV cntI
 rw [List.length_map]
 cases h : nearB (p.y / 8) (y : Nat) r with
 | true=>rw [if_pos rfl];congr 1;apply List.filter_congr;intro x _;unfold seesB;rw [h,Bool.and_true]
 | false =>
  rw [if_neg (by simp),List.length_eq_zero_iff,List.filter_eq_nil_iff]
  intro x _;unfold seesB;rw [h,Bool.and_false];simp
theorem rowsV_cnt (w : Wld) (p : Player) (r : Int) (s y : Nat) : (rowsV w p r s y).length = cntI (p.x / 8) r s * cntI (p.y / 8) r y:=by
 induction y with
 | zero=>simp [rowsV,cntI]
 | succ y ih =>
  have hc : cntI (p.y / 8) r (y + 1) = cntI (p.y / 8) r y + (if nearB (p.y / 8) (y : Nat) r = true then 1 else 0):=by
   unfold cntI
   rw [List.range_succ,List.filter_append,List.length_append]
   congr 1
   by_cases h : nearB (p.y / 8) (y : Nat) r = true<;>simp [List.filter,h]
  rw [rowsV,List.length_append,ih,rowV_cnt,hc,Nat.mul_add]
  split<;>simp
open Go Go.RowKit Eng
theorem player_right {w : Wld} {id : Int} (h : (playerW w id).2 = true) : RW w:=by
 cases hR : rightW w with
 | true=>exact rightW_iff.1 hR
 | false=>unfold playerW at h;rw [if_pos hR] at h;simp at h
theorem player_mem {w : Wld} {id : Int} (h : (playerW w id).2 = true) : (playerW w id).1 ∈ w.players ∧ (playerW w id).1.id = id:=by
 have hR:=rightW_iff.2 (player_right h)
 unfold playerW at h ⊢
 rw [if_neg (by rw [hR];simp)] at h ⊢
 split
 ·rename_i p hg;exact getK_mem hg
 ·rename_i hg;rw [hg] at h;simp at h
open Go Go.RowKit Eng
theorem ofW_ok {w : Wld} {id r : Int} (h : (ofW w id r).2 = 0) : 0 ≤ r ∧ r ≤ 3 ∧ RW w ∧ (playerW w id).2 = true ∧ ofW w id r = (⟨w.tick,(playerW w id).1,rowsV w (playerW w id).1 r w.size.toNat w.size.toNat,othV w.players (playerW w id).1 r id w.players.length⟩,0):=by
 unfold ofW at h ⊢
 by_cases h1 : r < 0 ∨ 3 < r
 ·rw [if_pos h1] at h;simp at h
 ·rw [if_neg h1] at h ⊢
  by_cases h2 : rightW w = false
  ·rw [if_pos h2] at h;simp at h
  ·rw [if_neg h2] at h ⊢
   rw [Bool.not_eq_false] at h2
   by_cases h3 : (playerW w id).2 = false
   ·rw [if_pos h3] at h;simp at h
   ·rw [if_neg h3];rw [Bool.not_eq_false] at h3;exact ⟨by omega,by omega,rightW_iff.1 h2,h3,rfl⟩
open Go Go.RowKit Eng
end Go.Proofs.YtaecchphjploaaaGreat
