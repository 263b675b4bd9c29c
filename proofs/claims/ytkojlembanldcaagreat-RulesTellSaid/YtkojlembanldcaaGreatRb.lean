/- homesteadlaw16.Have, rules.Deltas; what is together changes by the deltas. -/
import Derived.Test.YtkojlembanldcaaGreatGi
import Derived.Test.YtkojlembanldcaaGreatGj
set_option linter.unusedSimpArgs false
set_option linter.unusedVariables false
set_option maxRecDepth 100000
set_option maxHeartbeats 16000000
namespace Go.Proofs.YtkojlembanldcaaGreat
open Go Go.RowKit Eng
theorem sameInts_api (a b : List (El .i64)) (ha : a.length ≤ 4000000000000000000) : Api Tryz.prog 25 [.vec .i64 a,.vec .i64 b] (bol (eqI a b)):=by
 by_cases hl : a.length = b.length
 ·skip
  refine aF Tryz.func25 24 ?_
  conv=>whnf
  repeat' (first|exact trivial|((first|(refine ⟨fun hb=>?_,fun hb=>?_⟩<;>(try simp only [nrm] at hb)<;>try exact kZ hb)|refine kV ?_)<;>(conv=>whnf))|refine kY ?_ ?_)
  all_goals try omega
  refine Runs.loopS cfg_ok (σ:=Nat) [0,1,5] (fun k=>[.vec .i64 a,.vec .i64 b,i64 k]) (fun _=>[]) (fun k=>k ≤ a.length ∧ a.take k = b.take k) (fun k=>a.length - k) 0 ⟨by omega,by rw [List.take_zero,List.take_zero]⟩ ?_ ?_
  ·exact fD0
  ·rintro k ⟨hk,ht⟩
   by_cases hlt : k < a.length
   ·have ea:=elt_get .i64 a k hlt
    have eb:=elt_get .i64 b k (by omega)
    conv=>whnf
    repeat' (first|exact trivial|((first|(refine ⟨fun hb=>?_,fun hb=>?_⟩<;>(try simp only [nrm] at hb)<;>try exact kZ hb)|refine kV ?_)<;>(conv=>whnf))|refine kY ?_ ?_)
    ·rename_i hb
     refine congrArg Value.bool ?_
     unfold eqI
     rw [decide_eq_false]
     intro he
     subst he
     exact hb rfl
    ·rename_i hb
     refine .to (k + 1) ⟨by omega,?_⟩ (by omega) ?_
     ·rw [List.take_add_one,List.take_add_one,ht,ea,eb]
      have hb2 : elt .i64 a k = elt .i64 b k:=hb
      rw [hb2]
     exact fD0
   ·obtain rfl : k = a.length:=by omega
    conv=>whnf
    repeat' (first|exact trivial|((first|(refine ⟨fun hb=>?_,fun hb=>?_⟩<;>(try simp only [nrm] at hb)<;>try exact kZ hb)|refine kV ?_)<;>(conv=>whnf))|refine kY ?_ ?_)
    refine congrArg Value.bool ?_
    unfold eqI
    rw [decide_eq_true]
    rw [List.take_length,hl,List.take_length] at ht
    exact ht
 ·have : eqI a b = false:=by unfold eqI;rw [decide_eq_false];intro h;exact hl (by rw [h])
  rw [this]
  refine aF Tryz.func25 24 ?_
  exact fD0
open Go Go.RowKit Eng
def hv (w : Wld) (i : Nat) : List Int:=(List.range i).map (fun k : Nat=>tw (k : Int) w) ++ List.replicate (13 - i) 0
open Go Go.RowKit Eng
def addAt (C : List Int) (i x : Int) : List Int:=C.set i.toNat (elt .i64 C i.toNat + x)
theorem addAt_len (C : List Int) (i x : Int) : (addAt C i x).length = C.length:=by unfold addAt;rw [List.length_set]
theorem elt_addAt {C : List Int} (hl : C.length = 13) {i : Int} (hi : 0 ≤ i ∧ i ≤ 12) (x : Int) (k : Nat) : elt .i64 (addAt C i x) k = if k = i.toNat then elt .i64 C k + x else elt .i64 C k:=by
 unfold addAt
 by_cases h : k = i.toNat
 ·rw [if_pos h];subst h
  unfold elt
  rw [List.getElem?_set_self (by omega)];rfl
 ·rw [if_neg h]
  unfold elt
  rw [List.getElem?_set_ne (fun e=>h e.symm)]
def subAll (C : List Int) (l : List Slot) : List Int:=l.foldl (fun C s=>addAt C s.item (-s.n)) C
def deltasW (w : Wld) (id : Int) (c : Cmd) : List Int:=
 if ¬ (applyW w id c).2 = 0 then zeros13
 else if c.dol = 3 then addAt zeros13 (givesI (atW w c.a c.b).1) 1
 else if c.dol = 4 then addAt zeros13 (elt .slot (playerW w id).1.bag c.c.toNat).item (-1)
 else if c.dol = 10 then addAt zeros13 11 (-1)
 else if c.dol = 9 then (match recipeN c.c with
  | some (wants,makes)=>addAt (subAll zeros13 wants) makes.item makes.n
  | none=>zeros13)
 else zeros13
theorem subAll_len (l : List Slot) : ∀ C : List Int,(subAll C l).length = C.length:=by
 induction l with
 | nil=>intro C;rfl
 | cons s r ih=>intro C;show (subAll (addAt C s.item (-s.n)) r).length = _;rw [ih,addAt_len]
theorem elt_subAll {l : List Slot} : ∀ {C : List Int},C.length = 13 → (∀ s ∈ l,0 ≤ s.item ∧ s.item ≤ 12) → ∀ k : Nat,elt .i64 (subAll C l) k = elt .i64 C k - sumF (fun s : Slot=>if k = s.item.toNat then s.n else 0) l:=by
 induction l with
 | nil=>intro C _ _ k;show elt .i64 C k = elt .i64 C k - 0;exact (Int.sub_zero _).symm
 | cons s r ih =>
  intro C hl hs k
  show elt .i64 (subAll (addAt C s.item (-s.n)) r) k = elt .i64 C k - ((if k = s.item.toNat then s.n else 0) + sumF _ r)
  rw [ih (by rw [addAt_len];exact hl) (fun x hx=>hs x (List.mem_cons_of_mem _ hx)),elt_addAt hl (hs s (by simp))]
  generalize sumF (fun s : Slot=>if k = s.item.toNat then s.n else 0) r = z
  have hx : ∀ x : Int,(if k = s.item.toNat then x + -s.n else x) - z = x - ((if k = s.item.toNat then s.n else 0) + z):=by
   intro x;split<;>omega
  exact hx _
theorem givesI_12 {i : Int} (h : 0 ≤ i ∧ i ≤ 12) : 0 ≤ givesI i ∧ givesI i ≤ 12:=by
 unfold givesI;split
 ·omega
 ·split<;>omega
theorem fin_one {G : Int} (hg : 0 ≤ G ∧ G ≤ 12) {x : Int} (hx : IntKind.i64.wrap (0 + x) = 0 + x) : List.take 13 (List.drop 0 (zeros13.set (G.toNat + 0) (IntKind.i64.wrap ((elt .i64 zeros13 (G.toNat + 0) : Int) + x)))) = addAt zeros13 G x:=by
 have hz:=zeros_elt G.toNat (by omega)
 unfold addAt
 rw [Nat.add_zero,List.drop_zero,hz]
 refine (List.take_of_length_le (by rw [List.length_set];exact Nat.le_refl _)).trans ?_
 exact congrArg (zeros13.set G.toNat) hx
theorem delta_err (w : Wld) (id : Int) (c : Cmd) (hw : OkW w) (hi : id ≤ 9223372036854775807) (hd : 0 ≤ c.dol ∧ c.dol ≤ 255) (he : ¬ (applyW w id c).2 = 0) : Api Tryz.prog 39 [wldV w,i64 id,cmdV c] (.vec .i64 zeros13):=by
 have hap:=apply_api w id c hw hi hd
 have hz : List.replicate 13 (0 : Int) = zeros13:=rfl
 generalize applyW w id c = R at *
 generalize zeros13 = Z at *
 refine aF Tryz.func39 109 ?_
 ((try with_reducible refine evCut fun N hN hE hT=>?_);(conv=>whnf))
 repeat' (first|exact trivial|((first|((first|apply hT|apply hE|apply hN);clear hN hE hT)|(refine ⟨fun hb=>?_,fun hb=>?_⟩<;>(try simp only [nrm] at hb)<;>try exact kZ hb)|refine kV ?_)<;>((try with_reducible refine evCut fun N hN hE hT=>?_);(conv=>whnf)))|refine kY ?_ ?_)
 all_goals first|rfl|omega|exact hz|(rw [← hz];rfl)|trace_state
theorem delta_no (w : Wld) (id : Int) (c : Cmd) (hw : OkW w) (hi : id ≤ 9223372036854775807) (hd : 0 ≤ c.dol ∧ c.dol ≤ 255) (he : (applyW w id c).2 = 0) (h3 : ¬ c.dol = 3) (h4 : ¬ c.dol = 4) (h10 : ¬ c.dol = 10) (h9 : ¬ c.dol = 9) : Api Tryz.prog 39 [wldV w,i64 id,cmdV c] (.vec .i64 zeros13):=by
 have hap:=apply_api w id c hw hi hd
 have hz : List.replicate 13 (0 : Int) = zeros13:=rfl
 generalize applyW w id c = R at *
 generalize zeros13 = Z at *
 refine aF Tryz.func39 109 ?_
 ((try with_reducible refine evCut fun N hN hE hT=>?_);(conv=>whnf))
 repeat' (first|exact trivial|((first|((first|apply hT|apply hE|apply hN);clear hN hE hT)|(refine ⟨fun hb=>?_,fun hb=>?_⟩<;>(try simp only [nrm] at hb)<;>try exact kZ hb)|refine kV ?_)<;>((try with_reducible refine evCut fun N hN hE hT=>?_);(conv=>whnf)))|refine kY ?_ ?_)
 all_goals first|rfl|omega|exact hz|(rw [← hz];rfl)|trace_state
theorem delta_3 (w : Wld) (id : Int) (c : Cmd) (hw : OkW w) (hi : id ≤ 9223372036854775807) (hd : 0 ≤ c.dol ∧ c.dol ≤ 255) (he : (applyW w id c).2 = 0) (h3 : c.dol = 3) (hab : c.a ≤ 127 ∧ c.b ≤ 127) (hc : 0 ≤ (atW w c.a c.b).1 ∧ (atW w c.a c.b).1 ≤ 12) : Api Tryz.prog 39 [wldV w,i64 id,cmdV c] (.vec .i64 (addAt zeros13 (givesI (atW w c.a c.b).1) 1)):=by
 have hap:=apply_api w id c hw hi hd
 have hat:=at_api w c.a c.b hw (by omega) (by omega)
 have hgv:=gives_api (atW w c.a c.b).1 hc.1 (by omega)
 have hg:=givesI_12 hc
 have hf:=fin_one hg (x:=1) (by decide)
 generalize givesI (atW w c.a c.b).1 = G at *
 generalize atW w c.a c.b = A at *
 generalize applyW w id c = R at *
 refine aF Tryz.func39 109 ?_
 exact fA0
theorem delta_4 (w : Wld) (id : Int) (c : Cmd) (hw : OkW w) (hi : id ≤ 9223372036854775807) (hd : 0 ≤ c.dol ∧ c.dol ≤ 255) (he : (applyW w id c).2 = 0) (h4 : c.dol = 4) (hc : 0 ≤ c.c ∧ c.c < (playerW w id).1.bag.length) (hit : 0 ≤ (elt .slot (playerW w id).1.bag c.c.toNat).item ∧ (elt .slot (playerW w id).1.bag c.c.toNat).item ≤ 12) : Api Tryz.prog 39 [wldV w,i64 id,cmdV c] (.vec .i64 (addAt zeros13 (elt .slot (playerW w id).1.bag c.c.toNat).item (-1))):=by
 have hap:=apply_api w id c hw hi hd
 have hpl:=wplayer_api w id hw
 have hf:=fin_one hit (x:=-1) (by decide)
 have hit2 : (elt .slot (playerW w id).1.bag (c.c.toNat + 0)).item = (elt .slot (playerW w id).1.bag c.c.toNat).item:=rfl
 generalize playerW w id = P at *
 generalize applyW w id c = R at *
 refine aF Tryz.func39 109 ?_
 exact fA0
theorem delta_10 (w : Wld) (id : Int) (c : Cmd) (hw : OkW w) (hi : id ≤ 9223372036854775807) (hd : 0 ≤ c.dol ∧ c.dol ≤ 255) (he : (applyW w id c).2 = 0) (h10 : c.dol = 10) : Api Tryz.prog 39 [wldV w,i64 id,cmdV c] (.vec .i64 (addAt zeros13 11 (-1))):=by
 have hap:=apply_api w id c hw hi hd
 generalize applyW w id c = R at *
 refine aF Tryz.func39 109 ?_
 exact fA0
theorem subAll_next {C : List Int} {l : List Slot} {k : Nat} (h : k < l.length) : subAll C (l.take (k + 1)) = addAt (subAll C (l.take k)) (elt .slot l k).item (-(elt .slot l k).n):=by
 unfold subAll
 rw [List.take_add_one,elt_get .slot l k h,List.foldl_append];rfl
theorem sumF_abs (f : Slot → Int) : ∀ l : List Slot,(∀ s ∈ l,0 ≤ f s ∧ f s ≤ 16) → 0 ≤ sumF f l ∧ sumF f l ≤ 16 * l.length
 | [],_=>⟨Int.le_refl _,Int.le_refl _⟩
 | s :: r,h=>by
  have h1:=h s (by simp)
  have h2:=sumF_abs f r fun x hx=>h x (List.mem_cons_of_mem _ hx)
  simp only [sumF,List.length_cons]
  omega
theorem sub_bd {l : List Slot} (hs : ∀ s ∈ l,1 ≤ s.item ∧ s.item ≤ 12 ∧ 1 ≤ s.n ∧ s.n ≤ 16) (h2 : l.length ≤ 2) {k : Nat} (hk : k < 13) : ∃ z : Int,elt .i64 (subAll zeros13 l) k = -z ∧ 0 ≤ z ∧ z ≤ 32:=by
 have h:=elt_subAll (C:=zeros13) rfl (fun s hm=>(⟨by have:=hs s hm;omega,by have:=hs s hm;omega⟩ : 0 ≤ s.item ∧ s.item ≤ 12)) k
 have hb:=sumF_abs (fun s : Slot=>if k = s.item.toNat then s.n else 0) l fun s hm=>by have:=hs s hm;split<;>omega
 refine ⟨_,h.trans ?_,hb.1,by omega⟩
 rw [zeros_elt k hk]
 exact Int.zero_sub _
def inZ (b n : Int) : Prop:=-b ≤ n ∧ n ≤ b
theorem delta_9 (w : Wld) (id : Int) (c : Cmd) (hw : OkW w) (hi : id ≤ 9223372036854775807) (hd : 0 ≤ c.dol ∧ c.dol ≤ 255) (he : (applyW w id c).2 = 0) (h9 : c.dol = 9) (hn : 0 ≤ c.c ∧ c.c < 7) : Api Tryz.prog 39 [wldV w,i64 id,cmdV c] (.vec .i64 (addAt (subAll zeros13 (elt .recipe recipesR c.c.toNat).of) (elt .recipe recipesR c.c.toNat).makes.item (elt .recipe recipesR c.c.toNat).makes.n)):=by
 have hap:=apply_api w id c hw hi hd
 have hre:=recipe_some c.c hn.1 hn.2
 obtain ⟨r1,r2,r3,r4,r5,r6,r7⟩:=recipe_ok (recipe_at hn.1 hn.2)
 generalize (elt .recipe recipesR c.c.toNat).of = W at *
 generalize (elt .recipe recipesR c.c.toNat).makes = M at *
 generalize applyW w id c = R at *
 have hnx:=fun k (h : k < W.length)=>subAll_next (C:=zeros13) h
 have hln:=fun k=>(subAll_len (W.take k) zeros13).trans (show zeros13.length = 13 from rfl)
 have hbd : ∀ k i : Nat,i < 13 → inZ 32 (elt .i64 (subAll zeros13 (W.take k)) i):=fun k i hi=>by
  obtain ⟨z,e,z0,z1⟩:=sub_bd (l:=W.take k) (fun s hs=>r1 s (List.mem_of_mem_take hs)) (by rw [List.length_take];omega) hi
  rw [e];unfold inZ;omega
 have h0 : subAll zeros13 (W.take 0) = List.replicate 13 (0 : Int):=rfl
 have hend : subAll zeros13 W = subAll zeros13 (W.take W.length):=by rw [List.take_length]
 rw [hend]
 obtain ⟨D,hD⟩ : ∃ D : Nat → List (El .i64),D = fun k=>subAll zeros13 (W.take k):=⟨_,rfl⟩
 have hnx2 : ∀ k,k < W.length → D (k + 1) = addAt (D k) (elt .slot W k).item (-(elt .slot W k).n):=by rw [hD];exact hnx
 have hln2 : ∀ k,(D k).length = 13:=by rw [hD];exact hln
 have hbd2 : ∀ k i : Nat,i < 13 → inZ 32 (elt .i64 (D k) i):=by rw [hD];exact hbd
 have h02 : D 0 = List.replicate 13 (0 : Int):=by rw [hD];exact h0
 have hgoal : addAt (subAll zeros13 (W.take W.length)) M.item M.n = addAt (D W.length) M.item M.n:=by rw [hD]
 rw [hgoal]
 clear hgoal hnx hln hbd h0 hend hD
 refine aF Tryz.func39 109 ?_
 ((try with_reducible refine evCut fun N hN hE hT=>?_);(conv=>whnf))
 repeat' (first|exact trivial|((first|((first|apply hT|apply hE|apply hN);clear hN hE hT)|(refine ⟨fun hb=>?_,fun hb=>?_⟩<;>(try simp only [nrm] at hb)<;>try exact kZ hb)|refine kV ?_)<;>((try with_reducible refine evCut fun N hN hE hT=>?_);(conv=>whnf)))|refine kY ?_ ?_)
 refine Runs.loopS cfg_ok (σ:=Nat) [7,15,86,87,88] (fun k=>[.own .i64 39 0 13 none,.ptr 30 0,.vec .slot W,i64 W.length,i64 k]) (fun k=>[(30,.box [.lit (.int .u8 M.item),i64 M.n]),(39,.row .i64 (D k))]) (fun k=>k ≤ W.length) (fun k=>W.length - k) 0 (by omega) ?_ ?_
 ·conv=>whnf
  repeat' (first|exact trivial|((first|((first|apply hT|apply hE|apply hN);clear hN hE hT)|(refine ⟨fun hb=>?_,fun hb=>?_⟩<;>(try simp only [nrm] at hb)<;>try exact kZ hb)|refine kV ?_)<;>((try with_reducible refine evCut fun N hN hE hT=>?_);(conv=>whnf)))|refine kY ?_ ?_)
  all_goals first|rfl|omega|(rw [h02];rfl)|trace_state
 ·intro k hk
  have hz1:=hln2 k
  by_cases hlt : k < W.length
  ·have hs:=r1 _ (elt_mem (t:=.slot) hlt)
   have hz2:=hln2 (k + 1)
   have hb:=hbd2 k ((elt .slot W ((k : Nat) : Int).toNat).item.toNat + 0) (by rw [Int.toNat_natCast];omega)
   have hs4 : 1 ≤ (elt .slot W ((k : Nat) : Int).toNat).item ∧ (elt .slot W ((k : Nat) : Int).toNat).item ≤ 12 ∧ 1 ≤ (elt .slot W ((k : Nat) : Int).toNat).n ∧ (elt .slot W ((k : Nat) : Int).toNat).n ≤ 16:=by rw [Int.toNat_natCast];exact hs
   have hx:=hnx2 k hlt
   unfold inZ at hb
   conv=>whnf
   repeat' (first|exact trivial|((first|((first|apply hT|apply hE|apply hN);clear hN hE hT)|(refine ⟨fun hb=>?_,fun hb=>?_⟩<;>(try simp only [nrm] at hb)<;>try exact kZ hb)|refine kV ?_)<;>((try with_reducible refine evCut fun N hN hE hT=>?_);(conv=>whnf)))|refine kY ?_ ?_)
   refine .to (k + 1) hlt (by omega) ?_
   conv=>whnf
   repeat' (first|exact trivial|((first|((first|apply hT|apply hE|apply hN);clear hN hE hT)|(refine ⟨fun hb=>?_,fun hb=>?_⟩<;>(try simp only [nrm] at hb)<;>try exact kZ hb)|refine kV ?_)<;>((try with_reducible refine evCut fun N hN hE hT=>?_);(conv=>whnf)))|refine kY ?_ ?_)
   all_goals first|rfl|omega|(rw [List.length_set];omega)|(rw [hx];exact List.take_of_length_le (by rw [List.length_set];omega))|trace_state
  ·obtain rfl : k = W.length:=by omega
   have hb:=hbd2 W.length (M.item.toNat + 0) (by omega)
   unfold inZ at hb
   conv=>whnf
   repeat' (first|exact trivial|((first|((first|apply hT|apply hE|apply hN);clear hN hE hT)|(refine ⟨fun hb=>?_,fun hb=>?_⟩<;>(try simp only [nrm] at hb)<;>try exact kZ hb)|refine kV ?_)<;>((try with_reducible refine evCut fun N hN hE hT=>?_);(conv=>whnf)))|refine kY ?_ ?_)
   all_goals first|rfl|omega|(rw [List.length_set];omega)|(rw [List.drop_zero];exact List.take_of_length_le (by rw [List.length_set];omega))|trace_state
theorem rightD_place {c : Cmd} (h : rightD c = true) (h3 : c.dol = 3 ∨ c.dol = 4 ∨ c.dol = 7 ∨ c.dol = 8) : (0 ≤ c.a ∧ c.a ≤ 127) ∧ (0 ≤ c.b ∧ c.b ≤ 127):=by
 obtain ⟨d,a,b,e,n⟩:=c
 dsimp only at h3 ⊢
 rcases h3 with rfl|rfl|rfl|rfl
 ·have h' : (rngB 0 127 a && (rngB 0 127 b && (zeroB e && zeroB n))) = true:=h
  simp only [rngB,Bool.and_eq_true,decide_eq_true_eq] at h'
  exact ⟨h'.1,h'.2.1⟩
 ·have h' : (rngB 0 127 a && (rngB 0 127 b && (rngB 0 7 e && zeroB n))) = true:=h
  simp only [rngB,Bool.and_eq_true,decide_eq_true_eq] at h'
  exact ⟨h'.1,h'.2.1⟩
 ·have h' : (rngB 0 127 a && (rngB 0 127 b && (rngB 0 7 e && rngB 1 1000 n))) = true:=h
  simp only [rngB,Bool.and_eq_true,decide_eq_true_eq] at h'
  exact ⟨h'.1,h'.2.1⟩
 ·have h' : (rngB 0 127 a && (rngB 0 127 b && (rngB 0 7 e && rngB 1 1000 n))) = true:=h
  simp only [rngB,Bool.and_eq_true,decide_eq_true_eq] at h'
  exact ⟨h'.1,h'.2.1⟩
open Go Go.RowKit Eng
theorem actA_3 {w : Wld} {p : Player} {c : Cmd} (h3 : c.dol = 3) : actA w p c = breakA w p c:=by
 unfold actA;rw [if_neg (by omega),if_pos h3]
theorem actA_4 {w : Wld} {p : Player} {c : Cmd} (h3 : c.dol = 4) : actA w p c = placeA w p c:=by
 unfold actA;rw [if_neg (by omega),if_neg (by omega),if_pos h3]
theorem actA_9 {w : Wld} {p : Player} {c : Cmd} (h3 : c.dol = 9) : actA w p c = craftA w p c:=by
 unfold actA;rw [if_neg (by omega),if_neg (by omega),if_neg (by omega),if_neg (by omega),if_neg (by omega),if_neg (by omega),if_pos h3]
theorem break_in {w : Wld} {p : Player} {c : Cmd} (hR : RW w) (h : (breakA w p c).2 = 0) : withinW w.size c.a c.b = true ∧ 1 ≤ (atW w c.a c.b).1 ∧ (atW w c.a c.b).1 ≤ 12 ∧ blockB (atW w c.a c.b).1 = true:=by
 unfold breakA at h
 split at h
 ·rename_i h1;exact absurd h h1
 ·rename_i h1
  have hin:=(aim_in (Decidable.not_not.1 h1)).1
  split at h
  ·simp at h
  ·rename_i h2
   have hK:=(place_right hR hin).1
   have hI:=placeI_bd c.a c.b
   have hl:=right_len hK
   have hit : itemOk (cellA (placeC w c.a c.b) (placeI c.a c.b)) = true:=(right_fits hK).items _ (elt_mem (t:=.u8) (l:=(placeC w c.a c.b).cells) (i:=(placeI c.a c.b).toNat) (by omega))
   rw [at_place hR hin]
   have hb:=itemOk_bd hit
   dsimp only
   have h2' : ¬ cellA (placeC w c.a c.b) (placeI c.a c.b) = 0:=h2
   generalize cellA (placeC w c.a c.b) (placeI c.a c.b) = E at *
   refine ⟨hin,by omega,hb.2,?_⟩
   unfold itemOk at hit
   rw [Bool.or_eq_true,beq_iff_eq] at hit
   rcases hit with h|h
   ·exact absurd h h2'
   ·exact h
theorem place_in {w : Wld} {p : Player} {c : Cmd} (h : (placeA w p c).2 = 0) : (takeS p.bag c.c 1).2.2 = 0 ∧ withinW w.size c.a c.b = true:=by
 unfold placeA at h
 split at h
 ·rename_i h1;exact absurd h h1
 ·rename_i h1
  split at h
  ·rename_i h2;exact absurd h h2
  ·rename_i h2;exact ⟨Decidable.not_not.1 h2,(aim_in (Decidable.not_not.1 h1)).1⟩
theorem take_item {l : List Slot} {a n : Int} (h : (takeS l a n).2.2 = 0) : 0 ≤ a ∧ a < l.length ∧ 1 ≤ (elt .slot l a.toNat).item ∧ (elt .slot l a.toNat).item ≤ 12:=by
 obtain ⟨n1,n2,n3,n4,n5,n6,n7,n8⟩:=takeS_n h
 have hb:=badSlot_false.1 (bagOk_iff.1 n4 _ (elt_mem (t:=.slot) (l:=l) (i:=a.toNat) (by omega)))
 refine ⟨n5,n6,?_⟩
 rcases hb with hb|hb
 ·omega
 ·have : 1 ≤ stackN (elt .slot l a.toNat).item:=by omega
  unfold stackN at this
  (repeat' split at this)<;>omega
theorem apply_rightW {w : Wld} {id : Int} {c : Cmd} (h : (applyW w id c).2 = 0) : RW w:=by
 cases hR : rightW w with
 | true=>exact rightW_iff.1 hR
 | false=>unfold applyW at h;rw [if_pos hR] at h;simp at h
theorem deltas_api (w : Wld) (id : Int) (c : Cmd) (hw : OkW w) (hi : id ≤ 9223372036854775807) (hd : 0 ≤ c.dol ∧ c.dol ≤ 255) : Api Tryz.prog 39 [wldV w,i64 id,cmdV c] (.vec .i64 (deltasW w id c)):=by
 unfold deltasW
 by_cases he : (applyW w id c).2 = 0
 ·rw [if_neg (not_not_intro he)]
  have hR:=apply_rightW he
  rcases apply_cases hR id c with ⟨h1,_⟩|⟨h1,h2,_⟩|⟨h1,h2,h3,hp,hi2,h4,h5⟩
  ·exact absurd he h1
  ·rw [if_neg (by omega),if_neg (by omega),if_neg (by omega),if_neg (by omega)]
   exact delta_no w id c hw hi hd he (by omega) (by omega) (by omega) (by omega)
  ·by_cases d3 : c.dol = 3
   ·rw [if_pos d3]
    rw [actA_3 d3] at h4
    obtain ⟨b1,b2,b3,b4⟩:=break_in hp.rw h4
    have hab:=rightD_place h3 (.inl d3)
    exact delta_3 w id c hw hi hd he d3 (by omega) (by omega)
   ·rw [if_neg d3]
    by_cases d4 : c.dol = 4
    ·rw [if_pos d4]
     rw [actA_4 d4] at h4
     obtain ⟨t1,t2,t3,t4⟩:=take_item (place_in h4).1
     exact delta_4 w id c hw hi hd he d4 ⟨t1,t2⟩ (by omega)
    ·rw [if_neg d4]
     by_cases d10 : c.dol = 10
     ·rw [if_pos d10];exact delta_10 w id c hw hi hd he d10
     ·rw [if_neg d10]
      by_cases d9 : c.dol = 9
      ·rw [if_pos d9]
       rw [actA_9 d9] at h4
       have hn : 0 ≤ c.c ∧ c.c < 7:=by
        by_cases hn : 0 ≤ c.c ∧ c.c < 7
        ·exact hn
        ·unfold craftA at h4
         have hm : ¬ (makeS (playerW w id).1.bag c.c).2 = 0:=by
          unfold makeS
          rw [if_neg (by rw [hp.bag.2];simp),recipe_out hn];simp
         rw [if_pos hm] at h4;exact absurd h4 hm
       rw [recipe_at hn.1 hn.2]
       exact delta_9 w id c hw hi hd he d9 hn
      ·rw [if_neg d9];exact delta_no w id c hw hi hd he d3 d4 d10 d9
 ·rw [if_pos he];exact delta_err w id c hw hi hd he
end Go.Proofs.YtkojlembanldcaaGreat
