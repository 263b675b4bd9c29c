/- homesteadlaw16.Have, rules.Deltas; what is together changes by the deltas. -/
import Derived.Test.YtkojlembanldcaaGreatGi
import Derived.Test.YtkojlembanldcaaGreatGj
set_option linter.unusedSimpArgs false
set_option linter.unusedVariables false
set_option maxRecDepth 100000
set_option maxHeartbeats 16000000
namespace Go.Proofs.YtkojlembanldcaaGreat
open Go Go.RowKit Eng
theorem ni : ∀ (l : List Int) (k : Nat) (bs rest : List Box),bT l k bs = some rest → bs.length ≤ l.length + rest.length
 | [],_,bs,rest,h=>by unfold bT at h;rw [Option.some.inj h];omega
 | i :: r,k,bs,rest,h=>by
  unfold bT at h
  split at h
  ·split at h
   ·cases bs with
    | nil=>cases h
    | cons c t =>
     simp only at h
     split at h
     ·have:=ni r (k + 1) t rest h
      simp only [List.length_cons];omega
     ·cases h
   ·have:=ni r (k + 1) bs rest h
    simp only [List.length_cons];omega
  ·cases h
theorem Di {c : Chunk} (h : ai c = true) : c.cells.length = 64 ∧ c.heaps.length ≤ 32 ∧ c.boxes.length ≤ 64:=by
 have h3:=(nm h).2.2
 unfold dP at h3
 simp only [Bool.and_eq_true,decide_eq_true_eq] at h3
 obtain ⟨_,_,_,_,h4,h5⟩:=h3
 refine ⟨by omega,by omega,?_⟩
 unfold ai at h
 rw [Bool.and_eq_true] at h
 obtain ⟨_,h2⟩:=h
 split at h2
 ·rename_i hg
  have:=ni _ _ _ _ hg
  simp only [List.length_nil] at this;omega
 ·cases h2
theorem yS {α : Type} {f : α → Nat} {m : Nat} : ∀ {l : List α},(∀ x ∈ l,f x ≤ m) → (l.map f).sum ≤ l.length * m
 | [],_=>by simp
 | a :: r,h=>by
  have h1:=h a (by simp)
  have h2:=yS (l:=r) fun x hx=>h x (List.mem_cons_of_mem _ hx)
  rw [List.map_cons,List.sum_cons,List.length_cons,Nat.succ_mul]
  omega
theorem ox {w : Wld} (h : RW w) (hw : OkW w) : (bK w).length ≤ 18014398509481984:=by
 rw [wa h]
 unfold pS
 have h1:=yS (l:=w.players) (f:=fun p=>p.bag.length + p.offer.length) (m:=16) fun p hp=>by
  obtain ⟨_,_,h3,_,h5⟩:=cm (h.players p hp).1
  rcases h5 with ⟨_,h5,_⟩|⟨_,_,_,h5,_⟩
  ·rw [h5];simp;omega
  ·omega
 have h2:=yS (l:=w.chunks) (f:=fun c=>c.heaps.length + 6 * c.boxes.length) (m:=416) fun c hc=>by
  have:=Di (h.chunks c hc).1
  omega
 have h3:=hw.nc
 have h4:=hw.np
 omega
theorem oy (w : Wld) (hw : OkW w) : Api Tryz.prog 55 [az w] (.vec .i64 (bY w)):=by
 have hrt:=dA w hw
 cases hR : aO w with
 | false =>
  rw [hR] at hrt
  have hs : bY w = aq:=by unfold bY;rw [if_neg (by rw [hR];simp)]
  rw [hs]
  refine aF Tryz.func55 10 ?_
  exact fD0
 | true =>
  rw [hR] at hrt
  have hRW:=aK.1 hR
  have hs : bY w = tot (bK w):=by unfold bY;rw [if_pos hR]
  rw [hs]
  have hev:=zp w (kv hRW hw) (ox hRW hw) hw
  have hln:=(tW (kv hRW hw).fit).len
  generalize tot (bK w) = T at *
  refine aF Tryz.func55 10 ?_
  conv=>whnf
  repeat' (first|exact trivial|((first|refine kL ?_|(refine ⟨fun hb=>?_,fun hb=>?_⟩<;>(try simp only [nrm] at hb)<;>try exact kZ hb)|refine kE hev [(0,6),(1,9)] rfl ?_|refine kF hev [(0,6),(1,9)] rfl ?_|refine kV ?_)<;>(conv=>whnf))|refine kY ?_ ?_)
  all_goals first|rfl|omega|exact List.take_of_length_le (by omega)|(rw [List.drop_zero];exact List.take_of_length_le (by omega))|trace_state
theorem pL (a b : List (El .i64)) (ha : a.length ≤ 4000000000000000000) : Api Tryz.prog 25 [.vec .i64 a,.vec .i64 b] (bol (eqI a b)):=by
 by_cases hl : a.length = b.length
 ·skip
  refine aF Tryz.func25 24 ?_
  conv=>whnf
  repeat' (first|exact trivial|((first|(refine ⟨fun hb=>?_,fun hb=>?_⟩<;>(try simp only [nrm] at hb)<;>try exact kZ hb)|refine kV ?_)<;>(conv=>whnf))|refine kY ?_ ?_)
  all_goals try omega
  refine ap.loopS ah (σ:=Nat) [0,1,5] (fun k=>[.vec .i64 a,.vec .i64 b,i64 k]) (fun _=>[]) (fun k=>k ≤ a.length ∧ a.take k = b.take k) (fun k=>a.length - k) 0 ⟨by omega,by rw [List.take_zero,List.take_zero]⟩ ?_ ?_
  ·exact fD0
  ·rintro k ⟨hk,ht⟩
   by_cases hlt : k < a.length
   ·have ea:=ar .i64 a k hlt
    have eb:=ar .i64 b k (by omega)
    conv=>whnf
    repeat' (first|exact trivial|((first|(refine ⟨fun hb=>?_,fun hb=>?_⟩<;>(try simp only [nrm] at hb)<;>try exact kZ hb)|refine kV ?_)<;>(conv=>whnf))|refine kY ?_ ?_)
    ·rename_i hb
     refine congrArg Value.bool ?_
     unfold eqI
     rw [decide_eq_false]
     intro he
     subst he
     exact hb rfl
    ·rename_i hb
     refine .to (k + 1) ⟨by omega,?_⟩ (by omega) ?_
     ·rw [List.take_add_one,List.take_add_one,ht,ea,eb]
      have hb2 : elt .i64 a k = elt .i64 b k:=hb
      rw [hb2]
     exact fD0
   ·obtain rfl : k = a.length:=by omega
    conv=>whnf
    repeat' (first|exact trivial|((first|(refine ⟨fun hb=>?_,fun hb=>?_⟩<;>(try simp only [nrm] at hb)<;>try exact kZ hb)|refine kV ?_)<;>(conv=>whnf))|refine kY ?_ ?_)
    refine congrArg Value.bool ?_
    unfold eqI
    rw [decide_eq_true]
    rw [List.take_length,hl,List.take_length] at ht
    exact ht
 ·have : eqI a b = false:=by unfold eqI;rw [decide_eq_false];intro h;exact hl (by rw [h])
  rw [this]
  refine aF Tryz.func25 24 ?_
  exact fD0
open Go Go.RowKit Eng
def hv (w : Wld) (i : Nat) : List Int:=(List.range i).map (fun k : Nat=>tw (k : Int) w) ++ List.replicate (13 - i) 0
def d8 (w : Wld) : List Int:=hv w 13
theorem jm (w : Wld) {i : Nat} (h : i ≤ 13) : (hv w i).length = 13:=by unfold hv;simp;omega
theorem Ja (w : Wld) {i : Nat} (h : i < 13) : (hv w i).set i (tw i w) = hv w (i + 1):=by
 unfold hv
 rw [List.range_succ,List.map_append,List.set_append_right _ _ (by simp)]
 simp only [List.length_map,List.length_range,Nat.sub_self,List.map_cons,List.map_nil,List.append_assoc]
 rw [show 13 - i = (13 - (i + 1)) + 1 by omega,List.replicate_succ];rfl
theorem Li (w : Wld) {i : Nat} (h : i < 13) (x : Int) : elt .i64 ((hv w i).set i x) i = x:=by
 unfold elt
 rw [List.getElem?_set_self (by rw [jm w (by omega)];exact h)];rfl
theorem Jb (w : Wld) {i : Nat} (h : i < 13) : (hv w i).set i 0 = hv w i:=by
 unfold hv
 rw [List.set_append_right _ _ (by simp)]
 simp only [List.length_map,List.length_range,Nat.sub_self]
 rw [show 13 - i = (13 - (i + 1)) + 1 by omega,List.replicate_succ];rfl
theorem rN {w : Wld} (hR : RW w) : ∀ s ∈ bK w,s.n ≤ 16:=fun s hs=>by
 have:=oE hR (bZ hR) s hs
 have:=dG s.item
 unfold iz at *;omega
theorem pM {w : Wld} (hR : RW w) {L : List aa} (h : L <+: bK w) (i : Int) : inN 288230376151711744 (ac L i):=by
 have h1:=wt i (l:=L) fun s hs=>rN hR s (h.subset hs)
 have h2:=h.length_le
 have h3:=ox hR (bZ hR)
 unfold inN;omega
open Go Go.RowKit Eng
def c5 (C : List Int) (i x : Int) : List Int:=C.set i.toNat (elt .i64 C i.toNat + x)
theorem mU (C : List Int) (i x : Int) : (c5 C i x).length = C.length:=by unfold c5;rw [List.length_set]
theorem pN {C : List Int} (hl : C.length = 13) {i : Int} (hi : 0 ≤ i ∧ i ≤ 12) (x : Int) (k : Nat) : elt .i64 (c5 C i x) k = if k = i.toNat then elt .i64 C k + x else elt .i64 C k:=by
 unfold c5
 by_cases h : k = i.toNat
 ·rw [if_pos h];subst h
  unfold elt
  rw [List.getElem?_set_self (by omega)];rfl
 ·rw [if_neg h]
  unfold elt
  rw [List.getElem?_set_ne (fun e=>h e.symm)]
def c6 (C : List Int) (l : List aa) : List Int:=l.foldl (fun C s=>c5 C s.item (-s.n)) C
def dp (w : Wld) (id : Int) (c : Cmd) : List Int:=
 if ¬ (aG w id c).2 = 0 then aq
 else if c.dol = 3 then c5 aq (bL (atW w c.a c.b).1) 1
 else if c.dol = 4 then c5 aq (elt .slot (ag w id).1.bag c.c.toNat).item (-1)
 else if c.dol = 10 then c5 aq 11 (-1)
 else if c.dol = 9 then (match eW c.c with
  | some (wants,makes)=>c5 (c6 aq wants) makes.item makes.n
  | none=>aq)
 else aq
theorem ld (l : List aa) : ∀ C : List Int,(c6 C l).length = C.length:=by
 induction l with
 | nil=>intro C;rfl
 | cons s r ih=>intro C;show (c6 (c5 C s.item (-s.n)) r).length = _;rw [ih,mU]
theorem tT {l : List aa} : ∀ {C : List Int},C.length = 13 → (∀ s ∈ l,0 ≤ s.item ∧ s.item ≤ 12) → ∀ k : Nat,elt .i64 (c6 C l) k = elt .i64 C k - cv (fun s : aa=>if k = s.item.toNat then s.n else 0) l:=by
 induction l with
 | nil=>intro C _ _ k;show elt .i64 C k = elt .i64 C k - 0;exact (Int.sub_zero _).symm
 | cons s r ih =>
  intro C hl hs k
  show elt .i64 (c6 (c5 C s.item (-s.n)) r) k = elt .i64 C k - ((if k = s.item.toNat then s.n else 0) + cv _ r)
  rw [ih (by rw [mU];exact hl) (fun x hx=>hs x (List.mem_cons_of_mem _ hx)),pN hl (hs s (by simp))]
  generalize cv (fun s : aa=>if k = s.item.toNat then s.n else 0) r = z
  have hx : ∀ x : Int,(if k = s.item.toNat then x + -s.n else x) - z = x - ((if k = s.item.toNat then s.n else 0) + z):=by
   intro x;split<;>omega
  exact hx _
theorem Jc {l : List aa} (hs : ∀ s ∈ l,0 ≤ s.item ∧ s.item ≤ 12) {k : Nat} (hk : ¬ (k : Int) = 0) : cv (fun s : aa=>if k = s.item.toNat then s.n else 0) l = fX l k:=by
 unfold fX
 induction l with
 | nil=>rfl
 | cons s r ih =>
  have h:=hs s (by simp)
  simp only [cv,ih fun x hx=>hs x (List.mem_cons_of_mem _ hx)]
  unfold sel
  by_cases e : k = s.item.toNat
  ·rw [if_pos e,if_pos ⟨hk,by omega⟩]
  ·rw [if_neg e,if_neg (fun h=>e (by omega))]
theorem Dj {l : List aa} : fX l 0 = 0:=by
 unfold fX
 induction l with
 | nil=>rfl
 | cons s r ih=>simp only [cv,ih];unfold sel;simp
theorem vV {i : Int} (h : 0 ≤ i ∧ i ≤ 12) : 0 ≤ bL i ∧ bL i ≤ 12:=by
 unfold bL;split
 ·omega
 ·split<;>omega
theorem qZ {G : Int} (hg : 0 ≤ G ∧ G ≤ 12) {x : Int} (hx : IntKind.i64.wrap (0 + x) = 0 + x) : List.take 13 (List.drop 0 (aq.set (G.toNat + 0) (IntKind.i64.wrap ((elt .i64 aq (G.toNat + 0) : Int) + x)))) = c5 aq G x:=by
 have hz:=gb G.toNat (by omega)
 unfold c5
 rw [Nat.add_zero,List.drop_zero,hz]
 refine (List.take_of_length_le (by rw [List.length_set];exact Nat.le_refl _)).trans ?_
 exact congrArg (aq.set G.toNat) hx
theorem Fg (w : Wld) (id : Int) (c : Cmd) (hw : OkW w) (hi : id ≤ 9223372036854775807) (hd : 0 ≤ c.dol ∧ c.dol ≤ 255) (he : ¬ (aG w id c).2 = 0) : Api Tryz.prog 39 [az w,i64 id,co c] (.vec .i64 aq):=by
 have hap:=ga w id c hw hi hd
 have hz : List.replicate 13 (0 : Int) = aq:=rfl
 generalize aG w id c = R at *
 generalize aq = Z at *
 refine aF Tryz.func39 109 ?_
 ((try with_reducible refine ab fun N hN hE hT=>?_);(conv=>whnf))
 repeat' (first|exact trivial|((first|((first|apply hT|apply hE|apply hN);clear hN hE hT)|(refine ⟨fun hb=>?_,fun hb=>?_⟩<;>(try simp only [nrm] at hb)<;>try exact kZ hb)|refine kV ?_)<;>((try with_reducible refine ab fun N hN hE hT=>?_);(conv=>whnf)))|refine kY ?_ ?_)
 all_goals first|rfl|omega|exact hz|(rw [← hz];rfl)|trace_state
theorem yT (w : Wld) (id : Int) (c : Cmd) (hw : OkW w) (hi : id ≤ 9223372036854775807) (hd : 0 ≤ c.dol ∧ c.dol ≤ 255) (he : (aG w id c).2 = 0) (h3 : ¬ c.dol = 3) (h4 : ¬ c.dol = 4) (h10 : ¬ c.dol = 10) (h9 : ¬ c.dol = 9) : Api Tryz.prog 39 [az w,i64 id,co c] (.vec .i64 aq):=by
 have hap:=ga w id c hw hi hd
 have hz : List.replicate 13 (0 : Int) = aq:=rfl
 generalize aG w id c = R at *
 generalize aq = Z at *
 refine aF Tryz.func39 109 ?_
 ((try with_reducible refine ab fun N hN hE hT=>?_);(conv=>whnf))
 repeat' (first|exact trivial|((first|((first|apply hT|apply hE|apply hN);clear hN hE hT)|(refine ⟨fun hb=>?_,fun hb=>?_⟩<;>(try simp only [nrm] at hb)<;>try exact kZ hb)|refine kV ?_)<;>((try with_reducible refine ab fun N hN hE hT=>?_);(conv=>whnf)))|refine kY ?_ ?_)
 all_goals first|rfl|omega|exact hz|(rw [← hz];rfl)|trace_state
theorem Jd (w : Wld) (id : Int) (c : Cmd) (hw : OkW w) (hi : id ≤ 9223372036854775807) (hd : 0 ≤ c.dol ∧ c.dol ≤ 255) (he : (aG w id c).2 = 0) (h3 : c.dol = 3) (hab : c.a ≤ 127 ∧ c.b ≤ 127) (hc : 0 ≤ (atW w c.a c.b).1 ∧ (atW w c.a c.b).1 ≤ 12) : Api Tryz.prog 39 [az w,i64 id,co c] (.vec .i64 (c5 aq (bL (atW w c.a c.b).1) 1)):=by
 have hap:=ga w id c hw hi hd
 have hat:=FV w c.a c.b hw (by omega) (by omega)
 have hgv:=wk (atW w c.a c.b).1 hc.1 (by omega)
 have hg:=vV hc
 have hf:=qZ hg (x:=1) (by decide)
 generalize bL (atW w c.a c.b).1 = G at *
 generalize atW w c.a c.b = A at *
 generalize aG w id c = R at *
 refine aF Tryz.func39 109 ?_
 exact fA0
theorem Je (w : Wld) (id : Int) (c : Cmd) (hw : OkW w) (hi : id ≤ 9223372036854775807) (hd : 0 ≤ c.dol ∧ c.dol ≤ 255) (he : (aG w id c).2 = 0) (h4 : c.dol = 4) (hc : 0 ≤ c.c ∧ c.c < (ag w id).1.bag.length) (hit : 0 ≤ (elt .slot (ag w id).1.bag c.c.toNat).item ∧ (elt .slot (ag w id).1.bag c.c.toNat).item ≤ 12) : Api Tryz.prog 39 [az w,i64 id,co c] (.vec .i64 (c5 aq (elt .slot (ag w id).1.bag c.c.toNat).item (-1))):=by
 have hap:=ga w id c hw hi hd
 have hpl:=fL w id hw
 have hf:=qZ hit (x:=-1) (by decide)
 have hit2 : (elt .slot (ag w id).1.bag (c.c.toNat + 0)).item = (elt .slot (ag w id).1.bag c.c.toNat).item:=rfl
 generalize ag w id = P at *
 generalize aG w id c = R at *
 refine aF Tryz.func39 109 ?_
 exact fA0
theorem Hn (w : Wld) (id : Int) (c : Cmd) (hw : OkW w) (hi : id ≤ 9223372036854775807) (hd : 0 ≤ c.dol ∧ c.dol ≤ 255) (he : (aG w id c).2 = 0) (h10 : c.dol = 10) : Api Tryz.prog 39 [az w,i64 id,co c] (.vec .i64 (c5 aq 11 (-1))):=by
 have hap:=ga w id c hw hi hd
 generalize aG w id c = R at *
 refine aF Tryz.func39 109 ?_
 exact fA0
theorem rO {C : List Int} {l : List aa} {k : Nat} (h : k < l.length) : c6 C (l.take (k + 1)) = c5 (c6 C (l.take k)) (elt .slot l k).item (-(elt .slot l k).n):=by
 unfold c6
 rw [List.take_add_one,ar .slot l k h,List.foldl_append];rfl
theorem yU (f : aa → Int) : ∀ l : List aa,(∀ s ∈ l,0 ≤ f s ∧ f s ≤ 16) → 0 ≤ cv f l ∧ cv f l ≤ 16 * l.length
 | [],_=>⟨Int.le_refl _,Int.le_refl _⟩
 | s :: r,h=>by
  have h1:=h s (by simp)
  have h2:=yU f r fun x hx=>h x (List.mem_cons_of_mem _ hx)
  simp only [cv,List.length_cons]
  omega
theorem Fh {l : List aa} (hs : ∀ s ∈ l,1 ≤ s.item ∧ s.item ≤ 12 ∧ 1 ≤ s.n ∧ s.n ≤ 16) (h2 : l.length ≤ 2) {k : Nat} (hk : k < 13) : ∃ z : Int,elt .i64 (c6 aq l) k = -z ∧ 0 ≤ z ∧ z ≤ 32:=by
 have h:=tT (C:=aq) rfl (fun s hm=>(⟨by have:=hs s hm;omega,by have:=hs s hm;omega⟩ : 0 ≤ s.item ∧ s.item ≤ 12)) k
 have hb:=yU (fun s : aa=>if k = s.item.toNat then s.n else 0) l fun s hm=>by have:=hs s hm;split<;>omega
 refine ⟨_,h.trans ?_,hb.1,by omega⟩
 rw [gb k hk]
 exact Int.zero_sub _
def inZ (b n : Int) : Prop:=-b ≤ n ∧ n ≤ b
theorem Jf (w : Wld) (id : Int) (c : Cmd) (hw : OkW w) (hi : id ≤ 9223372036854775807) (hd : 0 ≤ c.dol ∧ c.dol ≤ 255) (he : (aG w id c).2 = 0) (h9 : c.dol = 9) (hn : 0 ≤ c.c ∧ c.c < 7) : Api Tryz.prog 39 [az w,i64 id,co c] (.vec .i64 (c5 (c6 aq (elt .recipe bJ c.c.toNat).of) (elt .recipe bJ c.c.toNat).makes.item (elt .recipe bJ c.c.toNat).makes.n)):=by
 have hap:=ga w id c hw hi hd
 have hre:=rQ c.c hn.1 hn.2
 obtain ⟨r1,r2,r3,r4,r5,r6,r7⟩:=iY (iX hn.1 hn.2)
 generalize (elt .recipe bJ c.c.toNat).of = W at *
 generalize (elt .recipe bJ c.c.toNat).makes = M at *
 generalize aG w id c = R at *
 have hnx:=fun k (h : k < W.length)=>rO (C:=aq) h
 have hln:=fun k=>(ld (W.take k) aq).trans (show aq.length = 13 from rfl)
 have hbd : ∀ k i : Nat,i < 13 → inZ 32 (elt .i64 (c6 aq (W.take k)) i):=fun k i hi=>by
  obtain ⟨z,e,z0,z1⟩:=Fh (l:=W.take k) (fun s hs=>r1 s (List.mem_of_mem_take hs)) (by rw [List.length_take];omega) hi
  rw [e];unfold inZ;omega
 have h0 : c6 aq (W.take 0) = List.replicate 13 (0 : Int):=rfl
 have hend : c6 aq W = c6 aq (W.take W.length):=by rw [List.take_length]
 rw [hend]
 obtain ⟨D,hD⟩ : ∃ D : Nat → List (El .i64),D = fun k=>c6 aq (W.take k):=⟨_,rfl⟩
 have hnx2 : ∀ k,k < W.length → D (k + 1) = c5 (D k) (elt .slot W k).item (-(elt .slot W k).n):=by rw [hD];exact hnx
 have hln2 : ∀ k,(D k).length = 13:=by rw [hD];exact hln
 have hbd2 : ∀ k i : Nat,i < 13 → inZ 32 (elt .i64 (D k) i):=by rw [hD];exact hbd
 have h02 : D 0 = List.replicate 13 (0 : Int):=by rw [hD];exact h0
 have hgoal : c5 (c6 aq (W.take W.length)) M.item M.n = c5 (D W.length) M.item M.n:=by rw [hD]
 rw [hgoal]
 clear hgoal hnx hln hbd h0 hend hD
 refine aF Tryz.func39 109 ?_
 ((try with_reducible refine ab fun N hN hE hT=>?_);(conv=>whnf))
 repeat' (first|exact trivial|((first|((first|apply hT|apply hE|apply hN);clear hN hE hT)|(refine ⟨fun hb=>?_,fun hb=>?_⟩<;>(try simp only [nrm] at hb)<;>try exact kZ hb)|refine kV ?_)<;>((try with_reducible refine ab fun N hN hE hT=>?_);(conv=>whnf)))|refine kY ?_ ?_)
 refine ap.loopS ah (σ:=Nat) [7,15,86,87,88] (fun k=>[.own .i64 39 0 13 none,.ptr 30 0,.vec .slot W,i64 W.length,i64 k]) (fun k=>[(30,.box [.lit (.int .u8 M.item),i64 M.n]),(39,.row .i64 (D k))]) (fun k=>k ≤ W.length) (fun k=>W.length - k) 0 (by omega) ?_ ?_
 ·conv=>whnf
  repeat' (first|exact trivial|((first|((first|apply hT|apply hE|apply hN);clear hN hE hT)|(refine ⟨fun hb=>?_,fun hb=>?_⟩<;>(try simp only [nrm] at hb)<;>try exact kZ hb)|refine kV ?_)<;>((try with_reducible refine ab fun N hN hE hT=>?_);(conv=>whnf)))|refine kY ?_ ?_)
  all_goals first|rfl|omega|(rw [h02];rfl)|trace_state
 ·intro k hk
  have hz1:=hln2 k
  by_cases hlt : k < W.length
  ·have hs:=r1 _ (ao (t:=.slot) hlt)
   have hz2:=hln2 (k + 1)
   have hb:=hbd2 k ((elt .slot W ((k : Nat) : Int).toNat).item.toNat + 0) (by rw [Int.toNat_natCast];omega)
   have hs4 : 1 ≤ (elt .slot W ((k : Nat) : Int).toNat).item ∧ (elt .slot W ((k : Nat) : Int).toNat).item ≤ 12 ∧ 1 ≤ (elt .slot W ((k : Nat) : Int).toNat).n ∧ (elt .slot W ((k : Nat) : Int).toNat).n ≤ 16:=by rw [Int.toNat_natCast];exact hs
   have hx:=hnx2 k hlt
   unfold inZ at hb
   conv=>whnf
   repeat' (first|exact trivial|((first|((first|apply hT|apply hE|apply hN);clear hN hE hT)|(refine ⟨fun hb=>?_,fun hb=>?_⟩<;>(try simp only [nrm] at hb)<;>try exact kZ hb)|refine kV ?_)<;>((try with_reducible refine ab fun N hN hE hT=>?_);(conv=>whnf)))|refine kY ?_ ?_)
   refine .to (k + 1) hlt (by omega) ?_
   conv=>whnf
   repeat' (first|exact trivial|((first|((first|apply hT|apply hE|apply hN);clear hN hE hT)|(refine ⟨fun hb=>?_,fun hb=>?_⟩<;>(try simp only [nrm] at hb)<;>try exact kZ hb)|refine kV ?_)<;>((try with_reducible refine ab fun N hN hE hT=>?_);(conv=>whnf)))|refine kY ?_ ?_)
   all_goals first|rfl|omega|(rw [List.length_set];omega)|(rw [hx];exact List.take_of_length_le (by rw [List.length_set];omega))|trace_state
  ·obtain rfl : k = W.length:=by omega
   have hb:=hbd2 W.length (M.item.toNat + 0) (by omega)
   unfold inZ at hb
   conv=>whnf
   repeat' (first|exact trivial|((first|((first|apply hT|apply hE|apply hN);clear hN hE hT)|(refine ⟨fun hb=>?_,fun hb=>?_⟩<;>(try simp only [nrm] at hb)<;>try exact kZ hb)|refine kV ?_)<;>((try with_reducible refine ab fun N hN hE hT=>?_);(conv=>whnf)))|refine kY ?_ ?_)
   all_goals first|rfl|omega|(rw [List.length_set];omega)|(rw [List.drop_zero];exact List.take_of_length_le (by rw [List.length_set];omega))|trace_state
theorem pO {c : Cmd} (h : bG c = true) (h3 : c.dol = 3 ∨ c.dol = 4 ∨ c.dol = 7 ∨ c.dol = 8) : (0 ≤ c.a ∧ c.a ≤ 127) ∧ (0 ≤ c.b ∧ c.b ≤ 127):=by
 obtain ⟨d,a,b,e,n⟩:=c
 dsimp only at h3 ⊢
 rcases h3 with rfl|rfl|rfl|rfl
 ·have h' : (bm 0 127 a && (bm 0 127 b && (dB e && dB n))) = true:=h
  simp only [bm,Bool.and_eq_true,decide_eq_true_eq] at h'
  exact ⟨h'.1,h'.2.1⟩
 ·have h' : (bm 0 127 a && (bm 0 127 b && (bm 0 7 e && dB n))) = true:=h
  simp only [bm,Bool.and_eq_true,decide_eq_true_eq] at h'
  exact ⟨h'.1,h'.2.1⟩
 ·have h' : (bm 0 127 a && (bm 0 127 b && (bm 0 7 e && bm 1 1000 n))) = true:=h
  simp only [bm,Bool.and_eq_true,decide_eq_true_eq] at h'
  exact ⟨h'.1,h'.2.1⟩
 ·have h' : (bm 0 127 a && (bm 0 127 b && (bm 0 7 e && bm 1 1000 n))) = true:=h
  simp only [bm,Bool.and_eq_true,decide_eq_true_eq] at h'
  exact ⟨h'.1,h'.2.1⟩
open Go Go.RowKit Eng
theorem jN (k : Nat) (h : k < 13) : elt .i64 aq k = (0 : Int):=gb k h
theorem yV {g : Int} (h : 1 ≤ g ∧ g ≤ 12) (x : Int) {k : Nat} (hk : k < 13) : elt .i64 (c5 aq g x) k = sel k g x:=by
 have e:=pN (C:=aq) rfl (i:=g) (by omega) x k
 rw [jN k hk] at e
 rw [e]
 unfold sel
 by_cases h2 : k = g.toNat
 ·rw [if_pos h2,if_pos ⟨by omega,by omega⟩];exact Int.zero_add x
 ·rw [if_neg h2,if_neg (fun h3=>h2 (by omega))]
theorem Ku {w : Wld} {p : Player} {c : Cmd} (hp : bH w p) (h : (aZ w p c).2 = 0) (hd : ¬ c.dol = 3 ∧ ¬ c.dol = 4 ∧ ¬ c.dol = 9 ∧ ¬ c.dol = 10) (k : Int) : tw k (aZ w p c).1 = tw k w:=by
 unfold aZ at h ⊢
 by_cases h2 : c.dol = 2
 ·rw [if_pos h2] at h ⊢;exact Dy hp h k
 rw [if_neg h2,if_neg hd.1,if_neg hd.2.1] at h ⊢
 by_cases h5 : c.dol = 5
 ·rw [if_pos h5] at h ⊢;exact AP hp h k
 rw [if_neg h5] at h ⊢
 by_cases h6 : c.dol = 6
 ·rw [if_pos h6] at h ⊢;exact Dz hp h k
 rw [if_neg h6] at h ⊢
 by_cases h7 : c.dol = 7 ∨ c.dol = 8
 ·rw [if_pos h7] at h ⊢;exact AQ hp h k
 rw [if_neg h7,if_neg hd.2.2.1,if_neg hd.2.2.2] at h ⊢
 exact DB hp h k
theorem yW {w : Wld} {p : Player} {c : Cmd} (h3 : c.dol = 3) : aZ w p c = dH w p c:=by
 unfold aZ;rw [if_neg (by omega),if_pos h3]
theorem yX {w : Wld} {p : Player} {c : Cmd} (h3 : c.dol = 4) : aZ w p c = dI w p c:=by
 unfold aZ;rw [if_neg (by omega),if_neg (by omega),if_pos h3]
theorem yY {w : Wld} {p : Player} {c : Cmd} (h3 : c.dol = 9) : aZ w p c = dJ w p c:=by
 unfold aZ;rw [if_neg (by omega),if_neg (by omega),if_neg (by omega),if_neg (by omega),if_neg (by omega),if_neg (by omega),if_pos h3]
theorem Jg {w : Wld} {p : Player} {c : Cmd} (h3 : c.dol = 10) : aZ w p c = gI w p:=by
 unfold aZ;rw [if_neg (by omega),if_neg (by omega),if_neg (by omega),if_neg (by omega),if_neg (by omega),if_neg (by omega),if_neg (by omega),if_pos h3]
theorem sM {w : Wld} {p : Player} {c : Cmd} (hR : RW w) (h : (dH w p c).2 = 0) : av w.size c.a c.b = true ∧ 1 ≤ (atW w c.a c.b).1 ∧ (atW w c.a c.b).1 ≤ 12 ∧ cG (atW w c.a c.b).1 = true:=by
 unfold dH at h
 split at h
 ·rename_i h1;exact absurd h h1
 ·rename_i h1
  have hin:=(g6 (Decidable.not_not.1 h1)).1
  split at h
  ·simp at h
  ·rename_i h2
   have hK:=(cd hR hin).1
   have hI:=c9 c.a c.b
   have hl:=eu hK
   have hit : cK (bQ (aA w c.a c.b) (aJ c.a c.b)) = true:=(cS hK).items _ (ao (t:=.u8) (l:=(aA w c.a c.b).cells) (i:=(aJ c.a c.b).toNat) (by omega))
   rw [zw hR hin]
   have hb:=pT hit
   dsimp only
   have h2' : ¬ bQ (aA w c.a c.b) (aJ c.a c.b) = 0:=h2
   generalize bQ (aA w c.a c.b) (aJ c.a c.b) = E at *
   refine ⟨hin,by omega,hb.2,?_⟩
   unfold cK at hit
   rw [Bool.or_eq_true,beq_iff_eq] at hit
   rcases hit with h|h
   ·exact absurd h h2'
   ·exact h
theorem Jh {i : Int} (h1 : 1 ≤ i) (h2 : i ≤ 12) (hb : cG i = true) : 1 ≤ bL i ∧ bL i ≤ 12:=by
 unfold bL
 by_cases h4 : i = 4
 ·rw [if_pos h4];omega
 ·rw [if_neg h4,if_pos hb];exact ⟨h1,h2⟩
theorem sN {w : Wld} {p : Player} {c : Cmd} (h : (dI w p c).2 = 0) : (aj p.bag c.c 1).2.2 = 0 ∧ av w.size c.a c.b = true:=by
 unfold dI at h
 split at h
 ·rename_i h1;exact absurd h h1
 ·rename_i h1
  split at h
  ·rename_i h2;exact absurd h h2
  ·rename_i h2;exact ⟨Decidable.not_not.1 h2,(g6 (Decidable.not_not.1 h1)).1⟩
theorem pP {l : List aa} {a n : Int} (h : (aj l a n).2.2 = 0) : 0 ≤ a ∧ a < l.length ∧ 1 ≤ (elt .slot l a.toNat).item ∧ (elt .slot l a.toNat).item ≤ 12:=by
 obtain ⟨n1,n2,n3,n4,n5,n6,n7,n8⟩:=fm h
 have hb:=bM.1 (dn.1 n4 _ (ao (t:=.slot) (l:=l) (i:=a.toNat) (by omega)))
 refine ⟨n5,n6,?_⟩
 rcases hb with hb|hb
 ·omega
 ·have : 1 ≤ ak (elt .slot l a.toNat).item:=by omega
  unfold ak at this
  (repeat' split at this)<;>omega
theorem Ho {w : Wld} (hR : RW w) (id : Int) (c : Cmd) {k : Nat} (hk : k < 13) : tw k (aG w id c).1 = tw k w + elt .i64 (dp w id c) k:=by
 rcases nu hR id c with ⟨h1,h2⟩|⟨h1,h2,_,p',h3,h4,h5,h6⟩|⟨h1,h2,h3,hp,hi,h4,h5⟩
 ·rw [h2]
  have hd : dp w id c = aq:=by unfold dp;rw [if_pos h1]
  rw [hd,jN k hk];exact (Int.add_zero _).symm
 ·have hd : dp w id c = aq:=by
   unfold dp;rw [h6,if_neg (not_not_intro rfl),if_neg (by omega),if_neg (by omega),if_neg (by omega),if_neg (by omega)]
  rw [hd,jN k hk,h6]
  have hg : aH pid w.players p'.id = none:=by
   rw [h3]
   rw [j_ hR] at h1
   cases hg : aH pid w.players id with
   | none=>rfl
   | some p=>rw [hg] at h1;simp at h1
  show tw k (cR w (ck w.players p')) = _
  rw [zu hR,hg]
  have : pc k p' = 0:=by
   rw [h4];unfold pc;dsimp only
   rw [r9];rfl
  rw [this];show tw k w + 0 - 0 = tw k w + 0;omega
 ·rw [h5]
  dsimp only
  unfold dp
  rw [h5,if_neg (not_not_intro rfl)]
  by_cases d3 : c.dol = 3
  ·rw [if_pos d3]
   rw [yW d3] at h4 ⊢
   obtain ⟨b1,b2,b3,b4⟩:=sM hp.rw h4
   rw [AN hp h4 k,yV (Jh b2 b3 b4) 1 hk]
  ·rw [if_neg d3]
   by_cases d4 : c.dol = 4
   ·rw [if_pos d4]
    rw [yX d4] at h4 ⊢
    obtain ⟨_,_,t1,t2⟩:=pP (sN h4).1
    rw [AO hp h4 k,yV ⟨t1,t2⟩ (-1) hk]
    unfold sel;split<;>omega
   ·rw [if_neg d4]
    by_cases d10 : c.dol = 10
    ·rw [if_pos d10]
     rw [Jg d10] at h4 ⊢
     rw [FD hp h4 k,yV (by decide) (-1) hk]
     unfold sel;split<;>omega
    ·rw [if_neg d10]
     by_cases d9 : c.dol = 9
     ·rw [if_pos d9]
      rw [yY d9] at h4 ⊢
      rw [AR hp h4 k]
      cases hr : eW c.c with
      | none=>dsimp only;rw [jN k hk]
      | some r =>
       obtain ⟨W,M⟩:=r
       obtain ⟨r1,r2,r3,r4,r5,r6,r7⟩:=iY hr
       dsimp only
       have hW : ∀ s ∈ W,0 ≤ s.item ∧ s.item ≤ 12:=fun s hs=>by have:=r1 s hs;omega
       have hl : (c6 aq W).length = 13:=ld W aq
       have e1:=pN hl (i:=M.item) (by omega) M.n k
       have e2:=tT (C:=aq) rfl hW k
       rw [jN k hk] at e2
       rw [e1,e2]
       by_cases hk0 : (k : Int) = 0
       ·have : k = 0:=by omega
        subst this
        rw [if_neg (by omega)]
        have hz : cv (fun s : aa=>if 0 = s.item.toNat then s.n else 0) W = 0:=by
         clear e1 e2 hl hr r6 r7 h4 h5
         induction W with
         | nil=>rfl
         | cons s r ih =>
          have:=r1 s (by simp)
          simp only [cv]
          rw [ih (fun x hx=>r1 x (List.mem_cons_of_mem _ hx)) (fun x hx=>hW x (List.mem_cons_of_mem _ hx)),if_neg (by omega)];rfl
        rw [hz]
        show tw 0 w + (sel 0 M.item M.n - fX W 0) = tw 0 w + (0 - 0)
        rw [Dj];unfold sel;simp
       ·rw [Jc hW hk0]
        have hsel : sel k M.item M.n = if k = M.item.toNat then M.n else 0:=by
         unfold sel
         by_cases hm : k = M.item.toNat
         ·rw [if_pos hm,if_pos ⟨hk0,by omega⟩]
         ·rw [if_neg hm,if_neg (show ¬ (¬ (k : Int) = 0 ∧ M.item = k) from fun h=>hm (by omega))]
        rw [hsel]
        generalize fX W k = T
        have hx : ∀ z T n : Int,∀ q : Prop,[Decidable q] → z + ((if q then n else 0) - T) = z + (if q then 0 - T + n else 0 - T):=by
         intro z T n q _;split<;>omega
        exact hx _ _ _ _
     ·rw [if_neg d9,jN k hk,Ku hp h4 ⟨d3,d4,d9,d10⟩ k];exact (Int.add_zero _).symm
theorem pQ {w : Wld} {id : Int} {c : Cmd} (h : (aG w id c).2 = 0) : RW w:=by
 cases hR : aO w with
 | true=>exact aK.1 hR
 | false=>unfold aG at h;rw [if_pos hR] at h;simp at h
theorem Dk (w : Wld) (id : Int) (c : Cmd) (hw : OkW w) (hi : id ≤ 9223372036854775807) (hd : 0 ≤ c.dol ∧ c.dol ≤ 255) : Api Tryz.prog 39 [az w,i64 id,co c] (.vec .i64 (dp w id c)):=by
 unfold dp
 by_cases he : (aG w id c).2 = 0
 ·rw [if_neg (not_not_intro he)]
  have hR:=pQ he
  rcases nu hR id c with ⟨h1,_⟩|⟨h1,h2,_⟩|⟨h1,h2,h3,hp,hi2,h4,h5⟩
  ·exact absurd he h1
  ·rw [if_neg (by omega),if_neg (by omega),if_neg (by omega),if_neg (by omega)]
   exact yT w id c hw hi hd he (by omega) (by omega) (by omega) (by omega)
  ·by_cases d3 : c.dol = 3
   ·rw [if_pos d3]
    rw [yW d3] at h4
    obtain ⟨b1,b2,b3,b4⟩:=sM hp.rw h4
    have hab:=pO h3 (.inl d3)
    exact Jd w id c hw hi hd he d3 (by omega) (by omega)
   ·rw [if_neg d3]
    by_cases d4 : c.dol = 4
    ·rw [if_pos d4]
     rw [yX d4] at h4
     obtain ⟨t1,t2,t3,t4⟩:=pP (sN h4).1
     exact Je w id c hw hi hd he d4 ⟨t1,t2⟩ (by omega)
    ·rw [if_neg d4]
     by_cases d10 : c.dol = 10
     ·rw [if_pos d10];exact Hn w id c hw hi hd he d10
     ·rw [if_neg d10]
      by_cases d9 : c.dol = 9
      ·rw [if_pos d9]
       rw [yY d9] at h4
       have hn : 0 ≤ c.c ∧ c.c < 7:=by
        by_cases hn : 0 ≤ c.c ∧ c.c < 7
        ·exact hn
        ·unfold dJ at h4
         have hm : ¬ (cF (ag w id).1.bag c.c).2 = 0:=by
          unfold cF
          rw [if_neg (by rw [hp.bag.2];simp),lg hn];simp
         rw [if_pos hm] at h4;exact absurd h4 hm
       rw [iX hn.1 hn.2]
       exact Jf w id c hw hi hd he d9 hn
      ·rw [if_neg d9];exact yT w id c hw hi hd he d3 d4 d10 d9
 ·rw [if_pos he];exact Fg w id c hw hi hd he
end Go.Proofs.YtkojlembanldcaaGreat
