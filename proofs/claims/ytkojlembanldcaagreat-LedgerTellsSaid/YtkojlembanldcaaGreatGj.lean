/- rules.act, command.Right, craft.Make, rules.Apply. -/
import Derived.Test.YtkojlembanldcaaGreatGi
import Derived.Test.YtkojlembanldcaaGreatGc
import Derived.Test.YtkojlembanldcaaGreatGe
set_option linter.unusedSimpArgs false
set_option linter.unusedVariables false
set_option maxRecDepth 100000
set_option maxHeartbeats 16000000
namespace Go.Proofs.YtkojlembanldcaaGreat
open Go Go.RowKit Eng
abbrev LK (c : Cmd) : List AV:=[.lit (.int .u8 c.dol),i64 c.a,i64 c.b,i64 c.c,i64 c.n]
abbrev co (c : Cmd) : AV:=.agg [.lit (.int .u8 c.dol),i64 c.a,i64 c.b,i64 c.c,i64 c.n]
abbrev Dl (w : Wld) (p : Player) (c : Cmd) : List AV:=[i64 w.size,.lit (.int .u64 w.seed),i64 w.tick,.vec .chunk w.chunks,.vec .player w.players,i64 p.id,i64 p.x,i64 p.y,.vec .slot p.bag,i64 p.wth,.vec .slot p.offer,bol p.agrees,.lit (.int .u8 c.dol),i64 c.a,i64 c.b,i64 c.c,i64 c.n]
abbrev cJ (w : Wld) (p : Player) (c : Cmd) : Mem:=[(0,.box (Dl w p c))]
def sO (n : Int) : Bool:=decide (3 < max n (-n))
theorem vW (n : Int) (h : -1000000 ≤ n ∧ n ≤ 1000000) : Api Tryz.prog 208 [i64 n] (bol (sO n)):=by
 refine aF Tryz.func208 7 ?_
 conv=>whnf
 repeat' (first|exact trivial|((first|(refine ⟨fun hb=>?_,fun hb=>?_⟩<;>(try simp only [nrm] at hb)<;>try exact kZ hb)|refine kV ?_)<;>(conv=>whnf))|refine kY ?_ ?_)
 all_goals (unfold sO;rw [Int.zero_sub])
theorem q7 (w : Wld) (p : Player) (c : Cmd) (x y : Int) (hx : 0 ≤ x ∧ x ≤ 1000) (hy : 0 ≤ y ∧ y ≤ 1000) (hpx : 0 ≤ p.x ∧ p.x ≤ 1000) (hpy : 0 ≤ p.y ∧ p.y ≤ 1000) : Ev1 Tryz.prog 141 [.ptr 0 0,i64 x,i64 y] (cJ w p c) (bol (d_ p x y)) (cJ w p c):=by
 have h1:=vW (x - p.x) (by omega)
 have h2:=vW (y - p.y) (by omega)
 have hs : d_ p x y = (!(sO (x - p.x)) && !(sO (y - p.y))):=by
  rw [Bool.eq_iff_iff];unfold d_ sO
  simp only [Bool.and_eq_true,decide_eq_true_eq,Bool.not_eq_true',decide_eq_false_iff_not];omega
 rw [hs]
 cases e1 : sO (x - p.x)
 all_goals
  rw [e1] at h1
  cases e2 : sO (y - p.y)
  all_goals
   rw [e2] at h2
   refine eF Tryz.func141 27 ?_
   exact fA0
theorem yZ (w : Wld) (p : Player) (c : Cmd) (x y : Int) (hs : 1 ≤ w.size ∧ w.size ≤ 16) : Ev1 Tryz.prog 124 [.ptr 0 0,i64 x,i64 y] (cJ w p c) (bol (av w.size x y)) (cJ w p c):=by
 have h8 : wr8 w.size = 8 * w.size:=pI (by omega) (by omega)
 by_cases h : 0 ≤ min x y ∧ max x y < 8 * w.size
 ·rw [show av w.size x y = true by unfold av;rw [h8,decide_eq_true h.1,decide_eq_true h.2];rfl]
  refine eF Tryz.func124 20 ?_
  ((try with_reducible refine ab fun N hN hE hT=>?_);(conv=>whnf))
  repeat' (first|exact trivial|((first|((first|apply hT|apply hE|apply hN);clear hN hE hT)|(refine ⟨fun hb=>?_,fun hb=>?_⟩<;>(try simp only [nrm] at hb)<;>try exact kZ hb)|refine kV ?_)<;>((try with_reducible refine ab fun N hN hE hT=>?_);(conv=>whnf)))|refine kY ?_ ?_)
  all_goals first|omega|(refine congrArg Value.bool ?_;exact decide_eq_true h.2)|rfl|trace_state
 ·rw [show av w.size x y = false by unfold av;rw [h8,Bool.and_eq_false_iff,decide_eq_false_iff_not,decide_eq_false_iff_not];omega]
  refine eF Tryz.func124 20 ?_
  ((try with_reducible refine ab fun N hN hE hT=>?_);(conv=>whnf))
  repeat' (first|exact trivial|((first|((first|apply hT|apply hE|apply hN);clear hN hE hT)|(refine ⟨fun hb=>?_,fun hb=>?_⟩<;>(try simp only [nrm] at hb)<;>try exact kZ hb)|refine kV ?_)<;>((try with_reducible refine ab fun N hN hE hT=>?_);(conv=>whnf)))|refine kY ?_ ?_)
  all_goals first|omega|(refine congrArg Value.bool ?_;exact decide_eq_false (by omega))|rfl|trace_state
theorem sP (w : Wld) (p : Player) (c : Cmd) (x y : Int) (hw : OkW w) (hx : 0 ≤ x ∧ x ≤ 1000) (hy : 0 ≤ y ∧ y ≤ 1000) : Ev1 Tryz.prog 133 [.ptr 0 0,i64 x,i64 y] (cJ w p c) (.tup [bq (aA w x y),i64 (aJ x y)]) (cJ w p c):=by
 have hch:=uh w (x / 8) (y / 8) hw
 unfold aA aJ
 generalize ba w (x / 8) (y / 8) = K at *
 refine eF Tryz.func133 26 ?_
 exact fA0
open Go Go.RowKit Eng
open Go Go.RowKit Eng
theorem y7 (w : Wld) (p : Player) (c : Cmd) (hw : OkW w) (hs : 1 ≤ w.size ∧ w.size ≤ 16) (hpx : 0 ≤ p.x ∧ p.x ≤ 1000) (hpy : 0 ≤ p.y ∧ p.y ≤ 1000) (ha : 0 ≤ c.a ∧ c.a ≤ 127) (hb1 : 0 ≤ c.b ∧ c.b ≤ 127) : Ev1 Tryz.prog 126 [.ptr 0 0] (cJ w p c) (.tup [bq (if dF w p c.a c.b = 0 then aA w c.a c.b else ⟨0,0,[],[],[]⟩),i64 (if dF w p c.a c.b = 0 then aJ c.a c.b else 0),i64 (dF w p c.a c.b)]) (cJ w p c):=by
 have hth:=yZ w p c c.a c.b hs
 have hne:=q7 w p c c.a c.b (by omega) (by omega) hpx hpy
 have hpl:=sP w p c c.a c.b hw (by omega) (by omega)
 cases h1 : av w.size c.a c.b with
 | false =>
  rw [h1] at hth
  rw [show dF w p c.a c.b = 102 by unfold dF;rw [if_pos h1],if_neg (by decide),if_neg (by decide)]
  refine eF Tryz.func126 53 ?_
  exact fP1 hth
 | true =>
  rw [h1] at hth
  cases h2 : d_ p c.a c.b with
  | false =>
   rw [h2] at hne
   rw [show dF w p c.a c.b = 106 by unfold dF;rw [if_neg (by rw [h1];simp),if_pos h2],if_neg (by decide),if_neg (by decide)]
   refine eF Tryz.func126 53 ?_
   exact fP2 hth hne
  | true =>
   rw [h2] at hne
   rw [show dF w p c.a c.b = 0 by unfold dF;rw [if_neg (by rw [h1];simp),if_neg (by rw [h2];simp)],if_pos rfl,if_pos rfl]
   generalize aA w c.a c.b = K at *
   generalize aJ c.a c.b = I at *
   refine eF Tryz.func126 53 ?_
   exact fP3 hth hne hpl
open Go Go.RowKit Eng
abbrev Kv (w : Wld) : Mem:=[(0,.box [i64 w.size,.lit (.int .u64 w.seed),i64 w.tick,.vec .chunk w.chunks,.vec .player w.players,.top,.top,.top,.top,.top,.top,.top,.top,.top,.top,.top,.top])]
abbrev Hp : Mem:=[(0,.box [.top,.top,.top,.top,.top,.top,.top,.top,.top,.top,.top,.top,.top,.top,.top,.top,.top])]
def d0 (r : Wld × Int) : Mem:=if r.2 = 0 then Kv r.1 else Hp
theorem ef {r : Wld × Int} (h : r.2 = 0) : d0 r = Kv r.1:=if_pos h
theorem dE {r : Wld × Int} (h : ¬ r.2 = 0) : d0 r = Hp:=if_neg h
theorem bt {w : Wld} {e : Int} (h : ¬ e = 0) : d0 (w,e) = Hp:=if_neg h
theorem jO (w : Wld) (p : Player) (c : Cmd) (hw : OkW w) (hp : OkP p) : Ev1 Tryz.prog 125 [.ptr 0 0] (cJ w p c) (i64 (am w p).2) (d0 (am w p)):=by
 have hs:=f_ w p hw hp
 generalize am w p = R at *
 by_cases hz : R.2 = 0
 ·rw [ef hz]
  rw [hz] at hs ⊢
  refine eF Tryz.func125 23 ?_
  exact fA0
 ·rw [dE hz]
  refine eF Tryz.func125 23 ?_
  exact fA0
theorem lM (w : Wld) (p : Player) (c : Cmd) (k : Chunk) (hw : OkW w) (hp : OkP p) (hk : OkC k) (hf : fH k) : Ev1 Tryz.prog 129 [.ptr 0 0,bq k] (cJ w p c) (i64 (cV w k p).2) (d0 (cV w k p)):=by
 have hp1:=zJ w k hw hk hf
 have hst:=jO (br w k).1 p c (Cf hw hk hf) hp
 unfold cV
 by_cases h1 : (br w k).2 = 0
 ·rw [if_neg (not_not_intro h1)]
  rw [h1] at hp1
  generalize am (br w k).1 p = R at *
  generalize (br w k).1 = U at *
  by_cases hz : R.2 = 0
  ·rw [ef hz] at hst ⊢
   rw [hz] at hst ⊢
   refine eF Tryz.func129 23 ?_
   exact fP2 hst hp1
  ·rw [dE hz] at hst ⊢
   refine eF Tryz.func129 23 ?_
   exact fP2 hst hp1
 ·rw [if_pos h1,bt h1]
  generalize br w k = U at *
  refine eF Tryz.func129 23 ?_
  exact fA0
open Go Go.RowKit Eng
theorem Fi (w : Wld) (p : Player) (c : Cmd) (hR : RW w) (hp : a7 p = true) (hi : av w.size p.x p.y = true) (ha : 0 ≤ c.a ∧ c.a ≤ 127) (hb1 : 0 ≤ c.b ∧ c.b ≤ 127) : Ev1 Tryz.prog 65 [.ptr 0 0] (cJ w p c) (i64 (dH w p c).2) (d0 (dH w p c)):=by
 have hw:=bZ hR
 have hP:=bS hp
 have hxy:=(a6 hR).1 hi
 have hs:=hR.size
 have hai:=y7 w p c hw (by omega) (by omega) (by omega) ha hb1
 unfold dH
 by_cases hA : dF w p c.a c.b = 0
 ·rw [if_pos hA,if_pos hA,hA] at hai
  rw [if_neg (not_not_intro hA)]
  have hK:=(cd hR (g6 hA).1).1
  have hI:=c9 c.a c.b
  generalize aA w c.a c.b = K at *
  generalize aJ c.a c.b = I at *
  have hlen:=eu hK
  have hcell : 0 ≤ bQ K I ∧ bQ K I ≤ 12:=pT ((cS hK).items _ (ao (t:=.u8) (by omega)))
  have hgb:=wj (bQ K I) hcell.1 (by omega)
  have hset:=Ca K I 0 (aS hK) (aV hK) (by omega) (by omega)
  have hK1:=lv hK (i:=0) hI.1 hI.2
  have hgi:=wk (bQ K I) hcell.1 (by omega)
  have hput:=ig p.bag (bL (bQ K I)) 1 (by have:=hP.nb;omega) hP.bag hgb.1 hgb.2 (by omega)
  have hB1:=qU (l:=p.bag) (i:=bL (bQ K I)) (n:=1) hP.bag hgb
  have hB2:=da p.bag (bL (bQ K I)) 1
  by_cases h0 : bQ K I = 0
  ·rw [if_pos h0,bt (e:=107) (by decide)]
   refine eF Tryz.func65 54 ?_
   exact fP1 hai
  ·rw [if_neg h0]
   generalize cC K I 0 = S at *
   generalize bk p.bag (bL (bQ K I)) 1 = B at *
   obtain ⟨S1,S2⟩:=S
   obtain ⟨B1,B2⟩:=B
   dsimp only at *
   by_cases h2 : S2 = 0
   ·subst h2
    rw [if_neg (not_not_intro rfl)]
    by_cases h3 : 0 < B2
    ·rw [if_pos h3,bt (e:=104) (by decide)]
     refine eF Tryz.func65 54 ?_
     exact fP4 hai hset hgi hput
    ·rw [if_neg h3]
     have hke:=lM w { p with bag:=B1 } c S1 hw (dU hP hB1 (by have:=hP.nb;omega)) (aS hK1) (aV hK1)
     generalize cV w S1 { p with bag:=B1 } = R at *
     by_cases hz : R.2 = 0
     ·rw [ef hz] at hke ⊢
      rw [hz] at hke ⊢
      refine eF Tryz.func65 54 ?_
      exact fP5 hai hke hset hgi hput
     ·rw [dE hz] at hke ⊢
      refine eF Tryz.func65 54 ?_
      exact fP5 hai hke hset hgi hput
   ·rw [if_pos h2,bt h2]
    refine eF Tryz.func65 54 ?_
    exact fP4 hai hset hgi hput
 ·rw [if_neg hA,if_neg hA] at hai
  rw [if_pos hA,bt hA]
  generalize dF w p c.a c.b = E at *
  refine eF Tryz.func65 54 ?_
  exact fP1 hai
theorem Ji (w : Wld) (p : Player) (c : Cmd) (hR : RW w) (hp : a7 p = true) (hi : av w.size p.x p.y = true) : Ev1 Tryz.prog 68 [.ptr 0 0] (cJ w p c) (i64 (fy w p c).2) (d0 (fy w p c)):=by
 have hw:=bZ hR
 have hP:=bS hp
 have hxy:=(a6 hR).1 hi
 have hs:=hR.size
 have hpl:=sP w p c p.x p.y hw (by omega) (by omega)
 have htk:=om p.bag c.c c.n (by have:=hP.nb;omega) hP.bag
 have hT:=fK (a:=c.c) (n:=c.n) hP.bag
 have hTl:=g9 p.bag c.c c.n
 have hK:=(cd hR hi).1
 have hI:=c9 p.x p.y
 unfold fy
 generalize aA w p.x p.y = K at *
 generalize aJ p.x p.y = I at *
 generalize aj p.bag c.c c.n = T at *
 obtain ⟨T1,T2,T3⟩:=T
 dsimp only at *
 have hdr:=oP K I T2 (aS hK) (aV hK) hT.1
 have hK1:=oF hK (s:=T2) hI
 generalize b9 K I T2 = S at *
 obtain ⟨S1,S2⟩:=S
 dsimp only at *
 by_cases h1 : T3 = 0
 ·subst h1
  rw [if_neg (not_not_intro rfl)]
  by_cases h2 : S2 = 0
  ·subst h2
   rw [if_neg (not_not_intro rfl)]
   have hke:=lM w { p with bag:=T1 } c S1 hw (dU hP hT.2 (by have:=hP.nb;omega)) (aS hK1) (aV hK1)
   generalize cV w S1 { p with bag:=T1 } = R at *
   by_cases hz : R.2 = 0
   ·rw [ef hz] at hke ⊢
    rw [hz] at hke ⊢
    refine eF Tryz.func68 63 ?_
    exact fP4 hpl hke htk hdr
   ·rw [dE hz] at hke ⊢
    refine eF Tryz.func68 63 ?_
    exact fP4 hpl hke htk hdr
  ·rw [if_pos h2,bt h2]
   refine eF Tryz.func68 63 ?_
   exact fP3 hpl htk hdr
 ·rw [if_pos h1,bt h1]
  refine eF Tryz.func68 63 ?_
  exact fA0
theorem Jj (w : Wld) (p : Player) (c : Cmd) (hR : RW w) (hp : a7 p = true) (hi : av w.size p.x p.y = true) (ha : -1 ≤ c.a ∧ c.a ≤ 1) (hb1 : -1 ≤ c.b ∧ c.b ≤ 1) : Ev1 Tryz.prog 64 [.ptr 0 0] (cJ w p c) (i64 (fx w p c).2) (d0 (fx w p c)):=by
 have hw:=bZ hR
 have hP:=bS hp
 have hxy:=(a6 hR).1 hi
 have hs:=hR.size
 have hth:=yZ w p c (p.x + c.a) (p.y + c.b) (by omega)
 have hat:=FV w (p.x + c.a) (p.y + c.b) hw (by omega) (by omega)
 have hst:=jO w { p with x:=p.x + c.a,y:=p.y + c.b } c hw ⟨hP.bag,hP.offer,hP.nb,hP.no⟩
 unfold fx
 generalize am w { p with x:=p.x + c.a,y:=p.y + c.b } = R at *
 generalize atW w (p.x + c.a) (p.y + c.b) = B at *
 obtain ⟨B1,B2⟩:=B
 dsimp only at *
 cases h1 : av w.size (p.x + c.a) (p.y + c.b) with
 | false =>
  rw [h1] at hth
  rw [if_pos rfl,bt (e:=102) (by decide)]
  refine eF Tryz.func64 57 ?_
  exact fP2 hth hat
 | true =>
  rw [h1] at hth
  rw [if_neg (by simp)]
  by_cases h2 : B1 = 0
  ·subst h2
   rw [if_neg (not_not_intro rfl)]
   by_cases hz : R.2 = 0
   ·rw [ef hz] at hst ⊢
    rw [hz] at hst ⊢
    refine eF Tryz.func64 57 ?_
    exact fP3 hth hst hat
   ·rw [dE hz] at hst ⊢
    refine eF Tryz.func64 57 ?_
    exact fP3 hth hst hat
  ·rw [if_pos h2,bt (e:=107) (by decide)]
   refine eF Tryz.func64 57 ?_
   exact fP2 hth hat
open Go Go.RowKit Eng
theorem vX (l m : List (El .slot)) (a n : Int) (hl : l.length * 16 ≤ 140737488351232) (hw : ∀ s ∈ l,aQ s) (hm : m.length * 16 ≤ 140737488351232) (hv : ∀ s ∈ m,aQ s) : Api Tryz.prog 137 [.vec .slot l,.vec .slot m,i64 a,i64 n] (.tup [.vec .slot (cA l m a n).1,.vec .slot (cA l m a n).2.1,i64 (cA l m a n).2.2]):=by
 have htk:=om l a n (by omega) hw
 have hT:=fK (a:=a) (n:=n) hw
 have htn:=fm (l:=l) (a:=a) (n:=n)
 unfold cA
 by_cases h1 : (aj l a n).2.2 = 0
 ·rw [if_neg (not_not_intro h1)]
  obtain ⟨n1,n2,n3,_⟩:=htn h1
  have hpu:=ig m (aj l a n).2.1.item (aj l a n).2.1.n (by omega) hv hT.1.1 hT.1.2 (by omega)
  rw [h1] at htk
  generalize bk m (aj l a n).2.1.item (aj l a n).2.1.n = B at *
  generalize aj l a n = T at *
  obtain ⟨T1,T2,T3⟩:=T
  obtain ⟨B1,B2⟩:=B
  dsimp only at *
  by_cases h2 : 0 < B2
  ·rw [if_pos h2]
   refine aF Tryz.func137 34 ?_
   exact fA0
  ·rw [if_neg h2]
   refine aF Tryz.func137 34 ?_
   exact fA0
 ·rw [if_pos h1]
  generalize aj l a n = T at *
  obtain ⟨T1,T2,T3⟩:=T
  dsimp only at *
  refine aF Tryz.func137 34 ?_
  exact fA0
theorem vY {l m : List aa} {a n : Int} (hl : ∀ s ∈ l,aQ s) (hm : ∀ s ∈ m,aQ s) : (∀ s ∈ (cA l m a n).1,aQ s) ∧ (∀ s ∈ (cA l m a n).2.1,aQ s):=by
 have hT:=fK (a:=a) (n:=n) hl
 unfold cA
 split
 ·exact ⟨by simp,by simp⟩
 ·split
  ·exact ⟨by simp,by simp⟩
  ·exact ⟨hT.2,qU hm hT.1⟩
theorem tU {l m : List aa} {a n : Int} : (cA l m a n).1.length ≤ l.length ∧ (cA l m a n).2.1.length ≤ m.length:=by
 unfold cA
 split
 ·simp
 ·split
  ·simp
  ·exact ⟨by rw [g9];exact Nat.le_refl _,by rw [da];exact Nat.le_refl _⟩
theorem y8 (w : Wld) (p : Player) (c : Cmd) (hR : RW w) (hp : a7 p = true) (hi : av w.size p.x p.y = true) (ha : 0 ≤ c.a ∧ c.a ≤ 127) (hb1 : 0 ≤ c.b ∧ c.b ≤ 127) : Ev1 Tryz.prog 69 [.ptr 0 0] (cJ w p c) (i64 (ee w p c).2) (d0 (ee w p c)):=by
 have hw:=bZ hR
 have hP:=bS hp
 have hxy:=(a6 hR).1 hi
 have hs:=hR.size
 have hai:=y7 w p c hw (by omega) (by omega) (by omega) ha hb1
 unfold ee
 by_cases hA : dF w p c.a c.b = 0
 ·rw [if_pos hA,if_pos hA,hA] at hai
  rw [if_neg (not_not_intro hA)]
  have hK:=(cd hR (g6 hA).1).1
  have hI:=c9 c.a c.b
  generalize aA w c.a c.b = K at *
  generalize aJ c.a c.b = I at *
  have hbx:=Jt K I (aS hK) (aV hK)
  cases hB : (c8 K I).2 with
  | false =>
   rw [if_pos rfl,bt (e:=107) (by decide)]
   rw [hB] at hbx
   refine eF Tryz.func69 96 ?_
   exact fP2 hai hbx
  | true =>
   rw [if_neg (by simp)]
   rw [hB] at hbx
   obtain ⟨hx1,hx2⟩:=pU hK hB
   have hx3:=aX hx2
   generalize (c8 K I).1 = X at *
   dsimp only
   by_cases hd : c.dol = 7
   ·rw [if_pos hd,if_pos hd,if_pos hd]
    have hmv:=vX p.bag X c.c c.n hP.nb hP.bag (by omega) hx3
    have hM1:=vY (a:=c.c) (n:=c.n) hP.bag hx3
    have hM2:=tU (l:=p.bag) (m:=X) (a:=c.c) (n:=c.n)
    generalize cA p.bag X c.c c.n = M at *
    obtain ⟨M1,M2,M3⟩:=M
    dsimp only at *
    by_cases h3 : M3 = 0
    ·subst h3
     rw [if_neg (not_not_intro rfl)]
     have hfi:=zz K I M2 (aS hK) (aV hK) (by omega) hM1.2
     have hK1:=lm hK I M2
     generalize ct K I M2 = S at *
     obtain ⟨S1,S2⟩:=S
     dsimp only at *
     by_cases h2 : S2 = 0
     ·subst h2
      rw [if_neg (not_not_intro rfl)]
      have hke:=lM w { p with bag:=M1 } c S1 hw (dU hP hM1.1 (by have:=hP.nb;omega)) (aS hK1) (aV hK1)
      generalize cV w S1 { p with bag:=M1 } = R at *
      by_cases hz : R.2 = 0
      ·rw [ef hz] at hke ⊢
       rw [hz] at hke ⊢
       refine eF Tryz.func69 96 ?_
       exact fP5 hai hke hbx hmv hfi
      ·rw [dE hz] at hke ⊢
       refine eF Tryz.func69 96 ?_
       exact fP5 hai hke hbx hmv hfi
     ·rw [if_pos h2,bt h2]
      refine eF Tryz.func69 96 ?_
      exact fP4 hai hbx hmv hfi
    ·rw [if_pos h3,bt h3]
     refine eF Tryz.func69 96 ?_
     exact fP3 hai hbx hmv
   ·rw [if_neg hd,if_neg hd,if_neg hd]
    have hmv:=vX X p.bag c.c c.n (by omega) hx3 hP.nb hP.bag
    have hM1:=vY (a:=c.c) (n:=c.n) hx3 hP.bag
    have hM2:=tU (l:=X) (m:=p.bag) (a:=c.c) (n:=c.n)
    generalize cA X p.bag c.c c.n = M at *
    obtain ⟨M1,M2,M3⟩:=M
    dsimp only at *
    by_cases h3 : M3 = 0
    ·subst h3
     rw [if_neg (not_not_intro rfl)]
     have hfi:=zz K I M1 (aS hK) (aV hK) (by omega) hM1.1
     have hK1:=lm hK I M1
     generalize ct K I M1 = S at *
     obtain ⟨S1,S2⟩:=S
     dsimp only at *
     by_cases h2 : S2 = 0
     ·subst h2
      rw [if_neg (not_not_intro rfl)]
      have hke:=lM w { p with bag:=M2 } c S1 hw (dU hP hM1.2 (by have:=hP.nb;omega)) (aS hK1) (aV hK1)
      generalize cV w S1 { p with bag:=M2 } = R at *
      by_cases hz : R.2 = 0
      ·rw [ef hz] at hke ⊢
       rw [hz] at hke ⊢
       refine eF Tryz.func69 96 ?_
       exact fP5 hai hke hbx hmv hfi
      ·rw [dE hz] at hke ⊢
       refine eF Tryz.func69 96 ?_
       exact fP5 hai hke hbx hmv hfi
     ·rw [if_pos h2,bt h2]
      refine eF Tryz.func69 96 ?_
      exact fP4 hai hbx hmv hfi
    ·rw [if_pos h3,bt h3]
     refine eF Tryz.func69 96 ?_
     exact fP3 hai hbx hmv
 ·rw [if_neg hA,if_neg hA] at hai
  rw [if_pos hA,bt hA]
  generalize dF w p c.a c.b = E at *
  refine eF Tryz.func69 96 ?_
  exact fP1 hai
open Go Go.RowKit Eng
theorem oz {w : Wld} (hR : RW w) {id : Int} (h : (ag w id).2 = true) : aH pid w.players id = some (ag w id).1 ∧ (ag w id).1 ∈ w.players ∧ (ag w id).1.id = id:=by
 have hr:=aK.2 hR
 have e : ag w id = match aH pid w.players id with|some p=>(p,true)|none=>(kf,false):=by
  unfold ag;rw [if_neg (by rw [hr];simp)];rfl
 cases hg : aH pid w.players id with
 | none=>rw [hg] at e;rw [e] at h;simp at h
 | some p =>
  rw [hg] at e
  rw [e]
  exact ⟨rfl,gq hg⟩
theorem Fj (w : Wld) (p : Player) (c : Cmd) (hR : RW w) (hp : a7 p = true) (hi : av w.size p.x p.y = true) (hd : c.dol = 11) : Ev1 Tryz.prog 72 [.ptr 0 0] (cJ w p c) (i64 (cz w p c).2) (d0 (cz w p c)):=by
 have hw:=bZ hR
 have hP:=bS hp
 have hpm:=eD hR hp hi
 have hxy:=(a6 hR).1 hi
 have hs:=hR.size
 obtain ⟨d,ca,cb,cc,cn⟩:=c
 dsimp only at hd
 subst hd
 have hpl:=fL w ca hw
 unfold cz
 dsimp only
 rw [if_pos rfl,if_pos rfl,if_pos rfl]
 cases hB : (ag w ca).2 with
 | false =>
  rw [hB] at hpl
  rw [if_pos rfl,bt (e:=110) (by decide)]
  generalize (ag w ca).1 = q at *
  refine eF Tryz.func72 133 ?_
  exact fA0
 | true =>
  rw [hB] at hpl
  rw [if_neg (by simp)]
  obtain ⟨_,hqm,_⟩:=oz hR hB
  generalize (ag w ca).1 = q at *
  have hqs:=hR.players q hqm
  have hqy:=(a6 hR).1 hqs.2
  have hqM:=eD hR hqs.1 hqs.2
  have hne:=q7 w p ⟨11,ca,cb,cc,cn⟩ q.x q.y (by omega) (by omega) (by omega) (by omega)
  have hcl:=FQ p q cc cn hP (dx hqM)
  have hmm:=wc hpm hqM cc cn
  cases hN : d_ p q.x q.y with
  | false =>
   rw [hN] at hne
   rw [if_pos ⟨by decide,rfl⟩,bt (e:=106) (by decide)]
   refine eF Tryz.func72 133 ?_
   exact fP2 hne hpl
  | true =>
   rw [hN] at hne
   rw [if_neg (fun h=>by cases h.2)]
   generalize cB p q cc cn = T at *
   obtain ⟨T1,T2,T3⟩:=T
   dsimp only at *
   by_cases h3 : T3 = 0
   ·subst h3
    rw [if_neg (not_not_intro rfl)]
    have hq1:=f_ w T2 hw (dx hmm.2)
    have hst:=jO (am w T2).1 T1 ⟨11,ca,cb,cc,cn⟩ (lR hw (dx hmm.2)) (dx hmm.1)
    by_cases h4 : (am w T2).2 = 0
    ·rw [if_neg (not_not_intro h4)]
     rw [h4] at hq1
     generalize am (am w T2).1 T1 = R at *
     generalize (am w T2).1 = U at *
     by_cases hz : R.2 = 0
     ·rw [ef hz] at hst ⊢
      rw [hz] at hst ⊢
      refine eF Tryz.func72 133 ?_
      exact fP5 hne hst hpl hcl hq1
     ·rw [dE hz] at hst ⊢
      refine eF Tryz.func72 133 ?_
      exact fP5 hne hst hpl hcl hq1
    ·rw [if_pos h4,bt h4]
     clear hst
     generalize am w T2 = U at *
     refine eF Tryz.func72 133 ?_
     exact fP4 hne hpl hcl hq1
   ·rw [if_pos h3,bt h3]
    refine eF Tryz.func72 133 ?_
    exact fP3 hne hpl hcl
theorem Fk (w : Wld) (p : Player) (c : Cmd) (hR : RW w) (hp : a7 p = true) (hi : av w.size p.x p.y = true) (hd : c.dol = 12) : Ev1 Tryz.prog 72 [.ptr 0 0] (cJ w p c) (i64 (cz w p c).2) (d0 (cz w p c)):=by
 have hw:=bZ hR
 have hP:=bS hp
 have hpm:=eD hR hp hi
 have hxy:=(a6 hR).1 hi
 have hs:=hR.size
 obtain ⟨d,ca,cb,cc,cn⟩:=c
 dsimp only at hd
 subst hd
 have hpl:=fL w p.wth hw
 unfold cz
 dsimp only
 simp only [show ¬ ((12 : Int) = 11) by decide,if_false,if_true]
 cases hB : (ag w p.wth).2 with
 | false =>
  rw [hB] at hpl
  rw [if_pos rfl,bt (e:=108) (by decide)]
  generalize (ag w p.wth).1 = q at *
  refine eF Tryz.func72 133 ?_
  exact fA0
 | true =>
  rw [hB] at hpl
  rw [if_neg (by simp)]
  obtain ⟨_,hqm,_⟩:=oz hR hB
  generalize (ag w p.wth).1 = q at *
  have hqs:=hR.players q hqm
  have hqy:=(a6 hR).1 hqs.2
  have hqM:=eD hR hqs.1 hqs.2
  have hne:=q7 w p ⟨12,ca,cb,cc,cn⟩ q.x q.y (by omega) (by omega) (by omega) (by omega)
  have hcl:=FR p q hP (dx hqM)
  have hmm:=wd hpm hqM
  cases hN : d_ p q.x q.y with
  | false =>
   rw [hN] at hne
   rw [if_pos ⟨by decide,rfl⟩,bt (e:=106) (by decide)]
   refine eF Tryz.func72 133 ?_
   exact fP2 hne hpl
  | true =>
   rw [hN] at hne
   rw [if_neg (fun h=>by cases h.2)]
   generalize bo p q = T at *
   obtain ⟨T1,T2,T0,T3⟩:=T
   dsimp only at *
   by_cases h3 : T3 = 0
   ·subst h3
    rw [if_neg (not_not_intro rfl)]
    have hq1:=f_ w T2 hw (dx hmm.2)
    have hst:=jO (am w T2).1 T1 ⟨12,ca,cb,cc,cn⟩ (lR hw (dx hmm.2)) (dx hmm.1)
    by_cases h4 : (am w T2).2 = 0
    ·rw [if_neg (not_not_intro h4)]
     rw [h4] at hq1
     generalize am (am w T2).1 T1 = R at *
     generalize (am w T2).1 = U at *
     by_cases hz : R.2 = 0
     ·rw [ef hz] at hst ⊢
      rw [hz] at hst ⊢
      refine eF Tryz.func72 133 ?_
      exact fP5 hne hst hpl hcl hq1
     ·rw [dE hz] at hst ⊢
      refine eF Tryz.func72 133 ?_
      exact fP5 hne hst hpl hcl hq1
    ·rw [if_pos h4,bt h4]
     clear hst
     generalize am w T2 = U at *
     refine eF Tryz.func72 133 ?_
     exact fP4 hne hpl hcl hq1
   ·rw [if_pos h3,bt h3]
    refine eF Tryz.func72 133 ?_
    exact fP3 hne hpl hcl
theorem Dm (w : Wld) (p : Player) (c : Cmd) (hR : RW w) (hp : a7 p = true) (hi : av w.size p.x p.y = true) (hd : c.dol = 13) : Ev1 Tryz.prog 72 [.ptr 0 0] (cJ w p c) (i64 (cz w p c).2) (d0 (cz w p c)):=by
 have hw:=bZ hR
 have hP:=bS hp
 have hpm:=eD hR hp hi
 have hxy:=(a6 hR).1 hi
 have hs:=hR.size
 obtain ⟨d,ca,cb,cc,cn⟩:=c
 dsimp only at hd
 subst hd
 have hpl:=fL w p.wth hw
 unfold cz
 dsimp only
 simp only [show ¬ ((13 : Int) = 11) by decide,show ¬ ((13 : Int) = 12) by decide,if_false,if_true]
 cases hB : (ag w p.wth).2 with
 | false =>
  rw [hB] at hpl
  rw [if_pos rfl,bt (e:=108) (by decide)]
  generalize (ag w p.wth).1 = q at *
  refine eF Tryz.func72 133 ?_
  exact fA0
 | true =>
  rw [hB] at hpl
  rw [if_neg (by simp)]
  obtain ⟨_,hqm,_⟩:=oz hR hB
  generalize (ag w p.wth).1 = q at *
  have hqs:=hR.players q hqm
  have hqy:=(a6 hR).1 hqs.2
  have hqM:=eD hR hqs.1 hqs.2
  have hne:=q7 w p ⟨13,ca,cb,cc,cn⟩ q.x q.y (by omega) (by omega) (by omega) (by omega)
  have hcl:=DF p q hP (dx hqM)
  have hmm:=tZ hpm hqM
  rw [if_neg (show ¬ (¬ True ∧ d_ p q.x q.y = false) from fun h=>h.1 trivial)]
  generalize b6 p q = T at *
  obtain ⟨T1,T2,T3⟩:=T
  dsimp only at *
  by_cases h3 : T3 = 0
  ·subst h3
   rw [if_neg (not_not_intro rfl)]
   have hq1:=f_ w T2 hw (dx hmm.2)
   have hst:=jO (am w T2).1 T1 ⟨13,ca,cb,cc,cn⟩ (lR hw (dx hmm.2)) (dx hmm.1)
   by_cases h4 : (am w T2).2 = 0
   ·rw [if_neg (not_not_intro h4)]
    rw [h4] at hq1
    generalize am (am w T2).1 T1 = R at *
    generalize (am w T2).1 = U at *
    by_cases hz : R.2 = 0
    ·rw [ef hz] at hst ⊢
     rw [hz] at hst ⊢
     refine eF Tryz.func72 133 ?_
     exact fP4 hst hpl hcl hq1
    ·rw [dE hz] at hst ⊢
     refine eF Tryz.func72 133 ?_
     exact fP4 hst hpl hcl hq1
   ·rw [if_pos h4,bt h4]
    clear hst
    generalize am w T2 = U at *
    refine eF Tryz.func72 133 ?_
    exact fA0
  ·rw [if_pos h3,bt h3]
   refine eF Tryz.func72 133 ?_
   exact fA0
open Go Go.RowKit Eng
theorem Hq (w : Wld) (p : Player) (c : Cmd) (q : Player) (hq : OkP q) : Ev1 Tryz.prog 131 [.agg (cells .player q),.ptr 2 0] ((2,.box [.ptr 0 0]) :: cJ w p c) (bol (dq c q)) ((2,.box [.ptr 0 0]) :: cJ w p c):=by
 unfold dq
 refine eF Tryz.func131 20 ?_
 ((try with_reducible refine ab fun N hN hE hT=>?_);(conv=>whnf))
 repeat' (first|exact trivial|((first|((first|apply hT|apply hE|apply hN);clear hN hE hT)|(refine ⟨fun hb=>?_,fun hb=>?_⟩<;>(try simp only [nrm] at hb)<;>try exact kZ hb)|refine kV ?_)<;>((try with_reducible refine ab fun N hN hE hT=>?_);(conv=>whnf)))|refine kY ?_ ?_)
 all_goals first|rfl|(refine congrArg Value.bool ?_;rw [decide_eq_true hb,Bool.true_and];rfl)|(refine congrArg Value.bool ?_;rw [decide_eq_false hb,Bool.false_and])|(refine congrArg Value.bool ?_;simp_all;done)|trace_state
theorem tV (w : Wld) (p : Player) (c : Cmd) (l : List (El .player)) (hl : l.length ≤ big) (hw : ∀ s ∈ l,OkP s) : Ev1 Tryz.prog 178 [.vec .player l,.clo (.func 131) [] [.ptr 2 0]] ((2,.box [.ptr 0 0]) :: cJ w p c) (i64 (b8 (dq c) l 0)) ((2,.box [.ptr 0 0]) :: cJ w p c):=by
 unfold big at hl
 refine eF Tryz.func178 17 ?_
 conv=>whnf
 refine ap.loopS ah (σ:=Nat) [0,1,7,8] (fun k=>[.vec .player l,.clo (.func 131) [] [.ptr 2 0],i64 l.length,i64 k]) (fun _=>(2,.box [.ptr 0 0]) :: cJ w p c) (fun k=>k ≤ l.length ∧ b8 (dq c) (l.drop k) k = b8 (dq c) l 0) (fun k=>l.length - k) 0 ⟨by omega,rfl⟩ ?_ ?_
 ·exact fD0
 ·intro k ⟨hk,he⟩
  by_cases hlt : k < l.length
  ·rw [aY hlt] at he
   simp only [b8] at he
   have hcl:=Hq w p c _ (hw _ (fG (t:=.player) (i:=(k : Int)) (by omega) (by omega)))
   rw [Int.toNat_natCast] at hcl
   cases hP : (dq c) (elt .player l k) with
   | true =>
    rw [hP] at he hcl
    conv=>whnf
    repeat' (first|exact trivial|((first|refine kL ?_|(refine ⟨fun hb=>?_,fun hb=>?_⟩<;>(try simp only [nrm] at hb)<;>try exact kZ hb)|refine kE hcl [(0,0),(2,2)] rfl ?_|refine kF hcl [(0,0),(2,2)] rfl ?_|refine kV ?_)<;>(conv=>whnf))|refine kY ?_ ?_)
    rw [← he];rfl
   | false =>
    rw [hP] at he hcl
    conv=>whnf
    repeat' (first|exact trivial|((first|refine kL ?_|(refine ⟨fun hb=>?_,fun hb=>?_⟩<;>(try simp only [nrm] at hb)<;>try exact kZ hb)|refine kE hcl [(0,0),(2,2)] rfl ?_|refine kF hcl [(0,0),(2,2)] rfl ?_|refine kV ?_)<;>(conv=>whnf))|refine kY ?_ ?_)
    refine .to (k + 1) ⟨hlt,?_⟩ (by omega) ?_
    ·rw [← he];rfl
    ·exact fD0
  ·conv=>whnf
   repeat' (first|exact trivial|((first|(refine ⟨fun hb=>?_,fun hb=>?_⟩<;>(try simp only [nrm] at hb)<;>try exact kZ hb)|refine kV ?_)<;>(conv=>whnf))|refine kY ?_ ?_)
   have : k = l.length:=by omega
   subst this
   simp only [List.drop_length,b8] at he
   rw [← he]
theorem Dn (w : Wld) (p : Player) (c : Cmd) (l : List (El .player)) (hl : l.length ≤ big) (hw : ∀ s ∈ l,OkP s) : Ev1 Tryz.prog 97 [.vec .player l,.clo (.func 131) [] [.ptr 2 0]] ((2,.box [.ptr 0 0]) :: cJ w p c) (bol (l.any (dq c))) ((2,.box [.ptr 0 0]) :: cJ w p c):=by
 refine eF Tryz.func97 7 ?_
 conv=>whnf
 repeat' (first|exact trivial|((first|refine kL ?_|(refine ⟨fun hb=>?_,fun hb=>?_⟩<;>(try simp only [nrm] at hb)<;>try exact kZ hb)|(refine isE 178 ?_;refine kE (tV w p c l hl hw) [(0,0),(2,2)] rfl ?_)|(refine isD 178 ?_;refine kF (tV w p c l hl hw) [(0,0),(2,2)] rfl ?_)|refine kV ?_)<;>(conv=>whnf))|refine kY ?_ ?_)
 all_goals (first|rw [gT]|skip)
theorem Jk (w : Wld) (p : Player) (c : Cmd) (hR : RW w) (hp : a7 p = true) (hi : av w.size p.x p.y = true) (ha : 0 ≤ c.a ∧ c.a ≤ 127) (hb1 : 0 ≤ c.b ∧ c.b ≤ 127) : Ev1 Tryz.prog 66 [.ptr 0 0] (cJ w p c) (i64 (dI w p c).2) (d0 (dI w p c)):=by
 have hw:=bZ hR
 have hP:=bS hp
 have hxy:=(a6 hR).1 hi
 have hs:=hR.size
 have hai:=y7 w p c hw (by omega) (by omega) (by omega) ha hb1
 have htk:=om p.bag c.c 1 (by have:=hP.nb;omega) hP.bag
 have hT:=fK (a:=c.c) (n:=1) hP.bag
 have hTl:=g9 p.bag c.c 1
 have hst:=Dn w p c w.players (by have:=hw.np;unfold big;omega) hw.players
 unfold dI
 by_cases hA : dF w p c.a c.b = 0
 ·rw [if_pos hA,if_pos hA,hA] at hai
  rw [if_neg (not_not_intro hA)]
  have hK:=(cd hR (g6 hA).1).1
  have hI:=c9 c.a c.b
  generalize aA w c.a c.b = K at *
  generalize aJ c.a c.b = I at *
  generalize aj p.bag c.c 1 = T at *
  obtain ⟨T1,T2,T3⟩:=T
  dsimp only at *
  have hlen:=eu hK
  have hset:=Ca K I T2.item (aS hK) (aV hK) hT.1.1 hT.1.2
  have hK1:=lv hK (i:=T2.item) hI.1 hI.2
  have hbl:=gS T2.item hT.1.1 hT.1.2
  by_cases h1 : T3 = 0
  ·subst h1
   rw [if_neg (not_not_intro rfl)]
   cases hB : cG T2.item with
   | false =>
    rw [hB] at hbl
    rw [if_pos rfl,bt (e:=100) (by decide)]
    refine eF Tryz.func66 76 ?_
    exact fP3 hai htk hbl
   | true =>
    rw [hB] at hbl
    rw [if_neg (by simp)]
    by_cases h0 : bQ K I = 0
    ·cases hS : w.players.any (dq c) with
     | true =>
      rw [hS] at hst
      rw [if_pos (.inr rfl),bt (e:=107) (by decide)]
      refine eF Tryz.func66 76 ?_
      ((try with_reducible refine ab fun N hN hE hT=>?_);(conv=>whnf))
      repeat' (first|exact trivial|((first|((first|apply hT|apply hE|apply hN);clear hN hE hT)|refine kL ?_|(refine ⟨fun hb=>?_,fun hb=>?_⟩<;>(try simp only [nrm] at hb)<;>try exact kZ hb)|refine kR hai [(0,0)] rfl ?_|refine kS hai [(0,0)] rfl ?_|refine kR hst [(0,0),(2,200002)] rfl ?_|refine kS hst [(0,0),(2,200002)] rfl ?_|refine kV ?_)<;>((try with_reducible refine ab fun N hN hE hT=>?_);(conv=>whnf)))|refine kY ?_ ?_)
      all_goals first|rfl|omega|trace_state
     | false =>
      rw [hS] at hst
      rw [if_neg (by simp [h0])]
      generalize cC K I T2.item = S at *
      obtain ⟨S1,S2⟩:=S
      dsimp only at *
      by_cases h2 : S2 = 0
      ·subst h2
       rw [if_neg (not_not_intro rfl)]
       have hke:=lM w { p with bag:=T1 } c S1 hw (dU hP hT.2 (by have:=hP.nb;omega)) (aS hK1) (aV hK1)
       generalize cV w S1 { p with bag:=T1 } = R at *
       by_cases hz : R.2 = 0
       ·rw [ef hz] at hke ⊢
        rw [hz] at hke ⊢
        refine eF Tryz.func66 76 ?_
        ((try with_reducible refine ab fun N hN hE hT=>?_);(conv=>whnf))
        repeat' (first|exact trivial|((first|((first|apply hT|apply hE|apply hN);clear hN hE hT)|refine kL ?_|(refine ⟨fun hb=>?_,fun hb=>?_⟩<;>(try simp only [nrm] at hb)<;>try exact kZ hb)|refine kR hai [(0,0)] rfl ?_|refine kS hai [(0,0)] rfl ?_|refine kR hst [(0,0),(2,200002)] rfl ?_|refine kS hst [(0,0),(2,200002)] rfl ?_|refine kE hke [(0,0)] rfl ?_|refine kF hke [(0,0)] rfl ?_|refine kV ?_)<;>((try with_reducible refine ab fun N hN hE hT=>?_);(conv=>whnf)))|refine kY ?_ ?_)
        all_goals first|rfl|omega|trace_state
       ·rw [dE hz] at hke ⊢
        refine eF Tryz.func66 76 ?_
        ((try with_reducible refine ab fun N hN hE hT=>?_);(conv=>whnf))
        repeat' (first|exact trivial|((first|((first|apply hT|apply hE|apply hN);clear hN hE hT)|refine kL ?_|(refine ⟨fun hb=>?_,fun hb=>?_⟩<;>(try simp only [nrm] at hb)<;>try exact kZ hb)|refine kR hai [(0,0)] rfl ?_|refine kS hai [(0,0)] rfl ?_|refine kR hst [(0,0),(2,200002)] rfl ?_|refine kS hst [(0,0),(2,200002)] rfl ?_|refine kE hke [(0,0)] rfl ?_|refine kF hke [(0,0)] rfl ?_|refine kV ?_)<;>((try with_reducible refine ab fun N hN hE hT=>?_);(conv=>whnf)))|refine kY ?_ ?_)
        all_goals first|rfl|omega|trace_state
      ·rw [if_pos h2,bt h2]
       refine eF Tryz.func66 76 ?_
       ((try with_reducible refine ab fun N hN hE hT=>?_);(conv=>whnf))
       repeat' (first|exact trivial|((first|((first|apply hT|apply hE|apply hN);clear hN hE hT)|refine kL ?_|(refine ⟨fun hb=>?_,fun hb=>?_⟩<;>(try simp only [nrm] at hb)<;>try exact kZ hb)|refine kR hai [(0,0)] rfl ?_|refine kS hai [(0,0)] rfl ?_|refine kR hst [(0,0),(2,200002)] rfl ?_|refine kS hst [(0,0),(2,200002)] rfl ?_|refine kV ?_)<;>((try with_reducible refine ab fun N hN hE hT=>?_);(conv=>whnf)))|refine kY ?_ ?_)
       all_goals first|rfl|omega|trace_state
    ·rw [if_pos (.inl h0),bt (e:=107) (by decide)]
     refine eF Tryz.func66 76 ?_
     ((try with_reducible refine ab fun N hN hE hT=>?_);(conv=>whnf))
     repeat' (first|exact trivial|((first|((first|apply hT|apply hE|apply hN);clear hN hE hT)|refine kL ?_|(refine ⟨fun hb=>?_,fun hb=>?_⟩<;>(try simp only [nrm] at hb)<;>try exact kZ hb)|refine kR hai [(0,0)] rfl ?_|refine kS hai [(0,0)] rfl ?_|refine kR hst [(0,0),(2,200002)] rfl ?_|refine kS hst [(0,0),(2,200002)] rfl ?_|refine kV ?_)<;>((try with_reducible refine ab fun N hN hE hT=>?_);(conv=>whnf)))|refine kY ?_ ?_)
     all_goals first|rfl|omega|trace_state
  ·rw [if_pos h1,bt h1]
   refine eF Tryz.func66 76 ?_
   exact fP2 hai htk
 ·rw [if_neg hA,if_neg hA] at hai
  rw [if_pos hA,bt hA]
  generalize dF w p c.a c.b = E at *
  refine eF Tryz.func66 76 ?_
  exact fP1 hai
open Go Go.RowKit Eng
theorem y_ (i : Int) {n : Int} (hn : n ≤ 0) : ∀ l : List aa,en i l n = l
 | []=>rfl
 | s :: r=>by simp only [en];rw [if_pos hn]
theorem za {l : List aa} {j : Nat} (h : j < l.length) : (l.take (j + 1)).reverse = elt .slot l j :: (l.take j).reverse:=by
 rw [List.take_add_one,ar .slot l j h,List.reverse_append];rfl
theorem mm {l r : List aa} {j k : Nat} (h : r.take k = l.take k) (hj : j < k) : elt .slot r j = elt .slot l j:=by
 unfold elt
 have h1 : (r.take k)[j]? = r[j]?:=by rw [List.getElem?_take,if_pos hj]
 have h2 : (l.take k)[j]? = l[j]?:=by rw [List.getElem?_take,if_pos hj]
 rw [← h1,← h2,h]
structure SpI (l : List aa) (i N : Int) (j : Nat) (n : Int) (r : List aa) : Prop where
 jl : j ≤ l.length
 len : r.length = l.length
 nz : 0 ≤ n
 nn : n ≤ 9223372036854775807
 pre : r.take j = l.take j
 out : (en i (l.take j).reverse n).reverse ++ r.drop j = gX l i N
theorem SpI.hit {l : List aa} {i n0 : Int} {j : Nat} {n : Int} {r : List aa} (h : SpI l i n0 (j + 1) n r) (hi : (elt .slot r j).item = i) (hn : 0 < n) (hs : 0 ≤ (elt .slot r j).n) :
  SpI l i n0 j (n - min (elt .slot r j).n n) (r.set j (d7 (elt .slot r j) (min (elt .slot r j).n n))):=by
 have hj:=h.jl
 have hl:=h.len
 have he:=mm h.pre (Nat.lt_succ_self j)
 refine ⟨by omega,by rw [List.length_set];exact hl,by omega,by have:=h.nn;omega,?_,?_⟩
 ·rw [List.take_set_of_le (Nat.le_refl j)]
  have:=congrArg (List.take j) h.pre
  rwa [List.take_take,List.take_take,Nat.min_eq_left (by omega)] at this
 ·rw [← h.out,za (by omega),← he]
  simp only [en]
  rw [if_neg (by omega),if_pos hi,List.reverse_cons,List.append_assoc]
  congr 1
  rw [List.drop_set,if_neg (by omega),Nat.sub_self,aY (t:=.slot) (by omega : j < r.length)]
  rfl
theorem SpI.miss {l : List aa} {i n0 : Int} {j : Nat} {n : Int} {r : List aa} (h : SpI l i n0 (j + 1) n r) (hi : ¬ (elt .slot r j).item = i) (hn : 0 < n) : SpI l i n0 j n r:=by
 have hj:=h.jl
 have hl:=h.len
 have he:=mm h.pre (Nat.lt_succ_self j)
 refine ⟨by omega,hl,h.nz,h.nn,?_,?_⟩
 ·have:=congrArg (List.take j) h.pre
  rwa [List.take_take,List.take_take,Nat.min_eq_left (by omega)] at this
 ·rw [← h.out,za (by omega),← he]
  simp only [en]
  rw [if_neg (by omega),if_neg hi,List.reverse_cons,List.append_assoc]
  congr 1
  rw [aY (t:=.slot) (by omega : j < r.length)]
  rfl
theorem SpI.done {l : List aa} {i n0 : Int} {j : Nat} {n : Int} {r : List aa} (h : SpI l i n0 j n r) (hd : j = 0 ∨ n ≤ 0) : r = gX l i n0:=by
 rw [← h.out]
 rcases hd with rfl|hd
 ·simp [en]
 ·rw [y_ i hd,List.reverse_reverse,← h.pre,List.take_append_drop]
theorem kr {P : Program} {fid : FuncId} {l : List (El .slot)} {n : Nat} {i : Int} {v : AV} (h : Api P fid [.vec .slot l,.lit (.int .u8 i)] v) (hn : n = l.length) (hv : jZ v = true) :
  Ev1 P fid [.own .slot 1 0 n none,.lit (.int .u8 i)] [(1,.row .slot l)] v [(1,.row .slot l)]:=by
 subst hn
 refine Api.lend h ?_ hv
 conv=>whnf
 refine ⟨by omega,?_⟩
 conv=>whnf
 simp only [List.drop_zero,List.take_length]
theorem vZ (l : List (El .slot)) (i n : Int) (hl : l.length * 16 ≤ 140737488355328) (hw : ∀ s ∈ l,aQ s) (hn : n ≤ 9223372036854775807) : Api Tryz.prog 140 [.vec .slot l,.lit (.int .u8 i),i64 n] (.tup [.vec .slot (a_ l i n).1,i64 (a_ l i n).2]):=by
 have hrt:=gV l (by unfold big;omega) hw
 unfold a_
 cases hb : an l with
 | false =>
  rw [if_pos rfl]
  rw [hb] at hrt
  refine aF Tryz.func140 58 ?_
  ((try with_reducible refine ab fun N hN hE hT=>?_);(conv=>whnf))
  repeat' (first|exact trivial|((first|((first|apply hT|apply hE|apply hN);clear hN hE hT)|refine kL ?_|(refine ⟨fun hb=>?_,fun hb=>?_⟩<;>(try simp only [nrm] at hb)<;>try exact kZ hb)|(refine isE 121 ?_;refine kE (bf l (by omega)) [(390001,150001)] rfl ?_)|(refine isD 121 ?_;refine kF (bf l (by omega)) [(390001,150001)] rfl ?_)|refine kE (eA hrt rfl rfl) [(1,150001)] rfl ?_|refine kF (eA hrt rfl rfl) [(1,150001)] rfl ?_|refine kV ?_)<;>((try with_reducible refine ab fun N hN hE hT=>?_);(conv=>whnf)))|refine kY ?_ ?_)
  all_goals first|(rw [List.drop_zero];exact List.take_length)|trace_state
 | true =>
  rw [if_neg (by simp)]
  rw [hb] at hrt
  have hsm:=bU hb
  have hct:=wv l i (fun s hs=>(hsm s hs).2) (by omega)
  by_cases h1 : n < 1
  ·rw [if_pos h1]
   refine aF Tryz.func140 58 ?_
   ((try with_reducible refine ab fun N hN hE hT=>?_);(conv=>whnf))
   repeat' (first|exact trivial|((first|((first|apply hT|apply hE|apply hN);clear hN hE hT)|refine kL ?_|(refine ⟨fun hb=>?_,fun hb=>?_⟩<;>(try simp only [nrm] at hb)<;>try exact kZ hb)|(refine isE 121 ?_;refine kE (bf l (by omega)) [(390001,150001)] rfl ?_)|(refine isD 121 ?_;refine kF (bf l (by omega)) [(390001,150001)] rfl ?_)|refine kE (eA hrt rfl rfl) [(1,150001)] rfl ?_|refine kF (eA hrt rfl rfl) [(1,150001)] rfl ?_|refine kV ?_)<;>((try with_reducible refine ab fun N hN hE hT=>?_);(conv=>whnf)))|refine kY ?_ ?_)
   all_goals first|(rw [List.drop_zero];exact List.take_length)|trace_state
  ·rw [if_neg h1]
   by_cases h2 : ac l i < n
   ·rw [if_pos h2]
    generalize ac l i = C at *
    refine aF Tryz.func140 58 ?_
    ((try with_reducible refine ab fun N hN hE hT=>?_);(conv=>whnf))
    repeat' (first|exact trivial|((first|((first|apply hT|apply hE|apply hN);clear hN hE hT)|refine kL ?_|(refine ⟨fun hb=>?_,fun hb=>?_⟩<;>(try simp only [nrm] at hb)<;>try exact kZ hb)|(refine isE 121 ?_;refine kE (bf l (by omega)) [(390001,150001)] rfl ?_)|(refine isD 121 ?_;refine kF (bf l (by omega)) [(390001,150001)] rfl ?_)|refine kE (eA hrt rfl rfl) [(1,150001)] rfl ?_|refine kF (eA hrt rfl rfl) [(1,150001)] rfl ?_|refine kE (kr hct rfl rfl) [(1,150001)] rfl ?_|refine kF (kr hct rfl rfl) [(1,150001)] rfl ?_|refine kV ?_)<;>((try with_reducible refine ab fun N hN hE hT=>?_);(conv=>whnf)))|refine kY ?_ ?_)
    all_goals first|(rw [List.drop_zero];exact List.take_length)|trace_state
   ·rw [if_neg h2]
    have h0 : SpI l i n l.length n l:=⟨Nat.le_refl _,rfl,by omega,hn,rfl,by rw [List.take_length,List.drop_length,List.append_nil];rfl⟩
    generalize ac l i = C at *
    refine aF Tryz.func140 58 ?_
    ((try with_reducible refine ab fun N hN hE hT=>?_);(conv=>whnf))
    repeat' (first|exact trivial|((first|((first|apply hT|apply hE|apply hN);clear hN hE hT)|refine kL ?_|(refine ⟨fun hb=>?_,fun hb=>?_⟩<;>(try simp only [nrm] at hb)<;>try exact kZ hb)|(refine isE 121 ?_;refine kE (bf l (by omega)) [(390001,150001)] rfl ?_)|(refine isD 121 ?_;refine kF (bf l (by omega)) [(390001,150001)] rfl ?_)|refine kE (eA hrt rfl rfl) [(1,150001)] rfl ?_|refine kF (eA hrt rfl rfl) [(1,150001)] rfl ?_|refine kE (kr hct rfl rfl) [(1,150001)] rfl ?_|refine kF (kr hct rfl rfl) [(1,150001)] rfl ?_|refine kV ?_)<;>((try with_reducible refine ab fun N hN hE hT=>?_);(conv=>whnf)))|refine kY ?_ ?_)
    refine ap.loopS ah (σ:=Nat × Int × List aa) [0,1,2,8] (fun (j,m,_)=>[.own .slot 150001 0 l.length none,.lit (.int .u8 i),i64 m,i64 ((j : Int) - 1)]) (fun (_,_,r)=>[(150001,.row .slot r)]) (fun (j,m,r)=>SpI l i n j m r) (fun (j,_,_)=>j) (l.length,n,l) h0 ?_ ?_
    ·exact fB0
    ·rintro ⟨j,m,r⟩ hI
     dsimp only at hI
     have hj:=hI.jl
     have hlen:=hI.len
     have hm0:=hI.nz
     have hmm:=hI.nn
     cases j with
     | zero =>
      have hX:=hI.done (.inl rfl)
      conv=>whnf
      repeat' (first|exact trivial|((first|((first|apply hT|apply hE|apply hN);clear hN hE hT)|(refine ⟨fun hb=>?_,fun hb=>?_⟩<;>(try simp only [nrm] at hb)<;>try exact kZ hb)|refine kV ?_)<;>((try with_reducible refine ab fun N hN hE hT=>?_);(conv=>whnf)))|refine kY ?_ ?_)
      all_goals first|exact hX|(rw [List.drop_zero];exact (aC hlen).trans hX)|trace_state
     | succ j =>
      have hsj : 0 ≤ (elt .slot r j).n ∧ (elt .slot r j).n ≤ 16:=by rw [mm hI.pre (Nat.lt_succ_self j)];exact hsm _ (ao (t:=.slot) (by omega))
      have hsj2 : (elt .slot r (j + 0)).n = (elt .slot r j).n:=rfl
      by_cases hm : 0 < m
      ·by_cases hi : (elt .slot r j).item = i
       ·have e1 : (((j + 1 : Nat) : Int) - 1).toNat = j:=by omega
        have e2 : (((j + 1 : Nat) : Int) - 1).toNat + 0 = j:=by omega
        have hle:=BW r l.length (((j + 1 : Nat) : Int) - 1) (min (elt .slot r j).n m) hlen.symm (by omega) (by omega) (by rw [e1];exact hsj) (by omega) (by rw [e1];omega)
        rw [e1] at hle
        have hi2 : (elt .slot r ((((j + 1 : Nat) : Int) - 1).toNat + 0)).item = i:=by rw [e2];exact hi
        have hq : min (elt .slot r ((((j + 1 : Nat) : Int) - 1).toNat + 0)).n m = min (elt .slot r j).n m:=by rw [e2]
        have hN:=hI.hit hi hm hsj.1
        rw [← hq] at hle hN
        have hb1 : 0 ≤ (elt .slot r ((((j + 1 : Nat) : Int) - 1).toNat + 0)).n:=by rw [e2];omega
        conv=>whnf
        repeat' (first|exact trivial|((first|((first|apply hT|apply hE|apply hN);clear hN hE hT)|refine kL ?_|(refine ⟨fun hb=>?_,fun hb=>?_⟩<;>(try simp only [nrm] at hb)<;>try exact kZ hb)|refine kE hle [(1,150001)] rfl ?_|refine kF hle [(1,150001)] rfl ?_|refine kV ?_)<;>((try with_reducible refine ab fun N hN hE hT=>?_);(conv=>whnf)))|refine kY ?_ ?_)
        refine .to (j,_,_) hN (by dsimp only;omega) ?_
        conv=>whnf
        repeat' (first|exact trivial|((first|((first|apply hT|apply hE|apply hN);clear hN hE hT)|(refine ⟨fun hb=>?_,fun hb=>?_⟩<;>(try simp only [nrm] at hb)<;>try exact kZ hb)|refine kV ?_)<;>((try with_reducible refine ab fun N hN hE hT=>?_);(conv=>whnf)))|refine kY ?_ ?_)
        all_goals first|exact aC (by rw [List.length_set];exact hlen)|exact aC hlen|trace_state
       ·have e2 : (((j + 1 : Nat) : Int) - 1).toNat + 0 = j:=by omega
        have hi2 : ¬ (elt .slot r ((((j + 1 : Nat) : Int) - 1).toNat + 0)).item = i:=by rw [e2];exact hi
        conv=>whnf
        repeat' (first|exact trivial|((first|((first|apply hT|apply hE|apply hN);clear hN hE hT)|(refine ⟨fun hb=>?_,fun hb=>?_⟩<;>(try simp only [nrm] at hb)<;>try exact kZ hb)|refine kV ?_)<;>((try with_reducible refine ab fun N hN hE hT=>?_);(conv=>whnf)))|refine kY ?_ ?_)
        refine .to (j,m,r) (hI.miss hi hm) (by dsimp only;omega) ?_
        conv=>whnf
        repeat' (first|exact trivial|((first|((first|apply hT|apply hE|apply hN);clear hN hE hT)|(refine ⟨fun hb=>?_,fun hb=>?_⟩<;>(try simp only [nrm] at hb)<;>try exact kZ hb)|refine kV ?_)<;>((try with_reducible refine ab fun N hN hE hT=>?_);(conv=>whnf)))|refine kY ?_ ?_)
        all_goals first|exact aC (by rw [List.length_set];exact hlen)|exact aC hlen|trace_state
      ·have hX:=hI.done (.inr (by omega))
       conv=>whnf
       repeat' (first|exact trivial|((first|((first|apply hT|apply hE|apply hN);clear hN hE hT)|(refine ⟨fun hb=>?_,fun hb=>?_⟩<;>(try simp only [nrm] at hb)<;>try exact kZ hb)|refine kV ?_)<;>((try with_reducible refine ab fun N hN hE hT=>?_);(conv=>whnf)))|refine kY ?_ ?_)
       all_goals first|exact hX|(rw [List.drop_zero];exact (aC hlen).trans hX)|trace_state
open Go Go.RowKit Eng
def bJ : List tB:=[⟨[⟨3,1⟩],⟨5,4⟩⟩,⟨[⟨5,2⟩],⟨6,4⟩⟩,⟨[⟨5,8⟩],⟨9,1⟩⟩,⟨[⟨6,1⟩,⟨7,1⟩],⟨10,4⟩⟩,⟨[⟨7,1⟩,⟨3,1⟩],⟨8,1⟩⟩,⟨[⟨6,2⟩,⟨8,3⟩],⟨12,1⟩⟩,⟨[⟨2,4⟩,⟨1,1⟩],⟨7,1⟩⟩]
theorem rP  : Api Tryz.prog 169 [] (.vec .recipe bJ):=by
 refine aF Tryz.func169 34 ?_
 exact fA0
theorem iX {n : Int} (h : 0 ≤ n) (h2 : n < 7) : eW n = some ((elt .recipe bJ n.toNat).of,(elt .recipe bJ n.toNat).makes):=by
 have : n = 0 ∨ n = 1 ∨ n = 2 ∨ n = 3 ∨ n = 4 ∨ n = 5 ∨ n = 6:=by omega
 rcases this with rfl|rfl|rfl|rfl|rfl|rfl|rfl<;>rfl
theorem lg {n : Int} (h : ¬ (0 ≤ n ∧ n < 7)) : eW n = none:=by
 unfold eW
 by_cases h0 : n < 0
 ·rw [if_pos h0]
 ·rw [if_neg h0]
  exact List.getElem?_eq_none (by show 7 ≤ n.toNat;omega)
theorem AD (n : Int) (h : ¬ (0 ≤ n ∧ n < 7)) : Api Tryz.prog 86 [i64 n] (.tup [.vec .slot [],.agg [.lit (.int .u8 0),i64 0],bol false]):=by
 have hr:=rP
 have hl : bJ.length = 7:=rfl
 generalize bJ = R at *
 refine aF Tryz.func86 25 ?_
 exact fA0
theorem rQ (n : Int) (h : 0 ≤ n) (h2 : n < 7) : Api Tryz.prog 86 [i64 n] (.tup [.vec .slot (elt .recipe bJ n.toNat).of,.agg [.lit (.int .u8 (elt .recipe bJ n.toNat).makes.item),i64 (elt .recipe bJ n.toNat).makes.n],bol true]):=by
 have hr:=rP
 have hl : bJ.length = 7:=rfl
 generalize bJ = R at *
 refine aF Tryz.func86 25 ?_
 exact fA0
def q8 (l : List aa) (s : aa) : Bool:=decide (ac l s.item < s.n)
theorem Kw (l : List (El .slot)) (hs : ∀ s ∈ l,s.n ≤ 16) (hl : l.length ≤ 100000000000000000) (s : aa) (h : lN s) : Ev1 Tryz.prog 207 [.agg [.lit (.int .u8 s.item),.lit (.int .i64 s.n)],.ptr 0 0] [(0,.box [.vec .slot l])] (bol (q8 l s)) [(0,.box [.vec .slot l])]:=by
 have hc:=wv l s.item hs hl
 refine eF Tryz.func207 9 ?_
 exact fA0
theorem v6 (l0 : List (El .slot)) (hs0 : ∀ s ∈ l0,s.n ≤ 16) (hl0 : l0.length ≤ 100000000000000000) (l : List (El .slot)) (hl : l.length ≤ big) (hw : ∀ s ∈ l,lN s) : Ev1 Tryz.prog 250 [.vec .slot l,.clo (.func 207) [] [.ptr 0 0]] [(0,.box [.vec .slot l0])] (i64 (b8 (q8 l0) l 0)) [(0,.box [.vec .slot l0])]:=by
 unfold big at hl
 refine eF Tryz.func250 17 ?_
 conv=>whnf
 refine ap.loopS ah (σ:=Nat) [0,1,7,8] (fun k=>[.vec .slot l,.clo (.func 207) [] [.ptr 0 0],i64 l.length,i64 k]) (fun _=>[(0,.box [.vec .slot l0])]) (fun k=>k ≤ l.length ∧ b8 (q8 l0) (l.drop k) k = b8 (q8 l0) l 0) (fun k=>l.length - k) 0 ⟨by omega,rfl⟩ ?_ ?_
 ·exact fD0
 ·intro k ⟨hk,he⟩
  by_cases hlt : k < l.length
  ·rw [aY hlt] at he
   simp only [b8] at he
   have hcl:=Kw l0 hs0 hl0 _ (hw _ (fG (t:=.slot) (i:=(k : Int)) (by omega) (by omega)))
   rw [Int.toNat_natCast] at hcl
   cases hP : (q8 l0) (elt .slot l k) with
   | true =>
    rw [hP] at he hcl
    conv=>whnf
    repeat' (first|exact trivial|((first|refine kL ?_|(refine ⟨fun hb=>?_,fun hb=>?_⟩<;>(try simp only [nrm] at hb)<;>try exact kZ hb)|refine kE hcl [(0,0)] rfl ?_|refine kF hcl [(0,0)] rfl ?_|refine kV ?_)<;>(conv=>whnf))|refine kY ?_ ?_)
    rw [← he];rfl
   | false =>
    rw [hP] at he hcl
    conv=>whnf
    repeat' (first|exact trivial|((first|refine kL ?_|(refine ⟨fun hb=>?_,fun hb=>?_⟩<;>(try simp only [nrm] at hb)<;>try exact kZ hb)|refine kE hcl [(0,0)] rfl ?_|refine kF hcl [(0,0)] rfl ?_|refine kV ?_)<;>(conv=>whnf))|refine kY ?_ ?_)
    refine .to (k + 1) ⟨hlt,?_⟩ (by omega) ?_
    ·rw [← he];rfl
    ·exact fD0
  ·conv=>whnf
   repeat' (first|exact trivial|((first|(refine ⟨fun hb=>?_,fun hb=>?_⟩<;>(try simp only [nrm] at hb)<;>try exact kZ hb)|refine kV ?_)<;>(conv=>whnf))|refine kY ?_ ?_)
   have : k = l.length:=by omega
   subst this
   simp only [List.drop_length,b8] at he
   rw [← he]
theorem Fl (l0 : List (El .slot)) (hs0 : ∀ s ∈ l0,s.n ≤ 16) (hl0 : l0.length ≤ 100000000000000000) (l : List (El .slot)) (hl : l.length ≤ big) (hw : ∀ s ∈ l,lN s) : Ev1 Tryz.prog 192 [.vec .slot l,.clo (.func 207) [] [.ptr 0 0]] [(0,.box [.vec .slot l0])] (bol (l.any (q8 l0))) [(0,.box [.vec .slot l0])]:=by
 refine eF Tryz.func192 7 ?_
 conv=>whnf
 repeat' (first|exact trivial|((first|refine kL ?_|(refine ⟨fun hb=>?_,fun hb=>?_⟩<;>(try simp only [nrm] at hb)<;>try exact kZ hb)|(refine isE 250 ?_;refine kE (v6 l0 hs0 hl0 l hl hw) [(0,0)] rfl ?_)|(refine isD 250 ?_;refine kF (v6 l0 hs0 hl0 l hl hw) [(0,0)] rfl ?_)|refine kV ?_)<;>(conv=>whnf))|refine kY ?_ ?_)
 all_goals (first|rw [gT]|skip)
theorem rR {l wants : List aa} {k : Nat} (h : k < wants.length) : (wants.take (k + 1)).foldl (fun b (s : aa)=>(a_ b s.item s.n).1) l = (a_ ((wants.take k).foldl (fun b (s : aa)=>(a_ b s.item s.n).1) l) (elt .slot wants k).item (elt .slot wants k).n).1:=by
 rw [List.take_add_one,ar .slot wants k h,List.foldl_append];rfl
theorem li (wants : List aa) : ∀ (l : List aa),an l = true → (wants.foldl (fun b (s : aa)=>(a_ b s.item s.n).1) l).length = l.length ∧ an (wants.foldl (fun b (s : aa)=>(a_ b s.item s.n).1) l) = true:=by
 induction wants with
 | nil=>intro l h;exact ⟨rfl,h⟩
 | cons a r ih =>
  intro l h
  obtain ⟨h1,h2⟩:=oL l a.item a.n
  obtain ⟨i1,i2⟩:=ih _ (h2 h)
  exact ⟨i1.trans h1,i2⟩
theorem Dp {a b : Nat} (h : a = b) (h2 : b * 16 ≤ 140737488351232) : a * 16 ≤ 140737488355328:=by omega
theorem Hr (l : List (El .slot)) (n : Int) (hl : l.length * 16 ≤ 140737488351232) (hw : ∀ s ∈ l,aQ s) : Api Tryz.prog 139 [.vec .slot l,i64 n] (.tup [.vec .slot (cF l n).1,i64 (cF l n).2]):=by
 have hrt:=fU l l.length (by unfold big;omega) hw
 rw [decide_eq_true (rfl : (l.length : Int) = l.length),Bool.true_and] at hrt
 have hcl:=a8 l (by omega)
 unfold cF
 by_cases hn : 0 ≤ n ∧ n < 7
 ·have hre:=rQ n hn.1 hn.2
  have hrn:=iX hn.1 hn.2
  obtain ⟨r1,r2,r3,r4,r5,r6,r7⟩:=iY hrn
  rw [hrn]
  generalize (elt .recipe bJ n.toNat).of = W at *
  generalize (elt .recipe bJ n.toNat).makes = M at *
  dsimp only
  cases hb : an l with
  | false =>
   rw [if_pos rfl]
   rw [hb] at hrt
   refine aF Tryz.func139 68 ?_
   exact fA0
  | true =>
   rw [if_neg (by simp)]
   rw [hb] at hrt
   have hsm:=bU hb
   have hwm:=Fl l (fun s hs=>(hsm s hs).2) (by omega) W (by unfold big;omega) (fun s _=>trivial)
   change Ev1 _ _ _ _ (bol (W.any (fun s=>decide (ac l s.item < s.n)))) _ at hwm
   cases hA : W.any (fun s=>decide (ac l s.item < s.n)) with
   | true =>
    rw [if_pos rfl]
    rw [hA] at hwm
    refine aF Tryz.func139 68 ?_
    ((try with_reducible refine ab fun N hN hE hT=>?_);(conv=>whnf))
    repeat' (first|exact trivial|((first|((first|apply hT|apply hE|apply hN);clear hN hE hT)|refine kL ?_|(refine ⟨fun hb=>?_,fun hb=>?_⟩<;>(try simp only [nrm] at hb)<;>try exact kZ hb)|refine kR hwm [(0,4)] rfl ?_|refine kS hwm [(0,4)] rfl ?_|refine kV ?_)<;>((try with_reducible refine ab fun N hN hE hT=>?_);(conv=>whnf)))|refine kY ?_ ?_)
    all_goals first|rfl|trace_state
   | false =>
    rw [if_neg (by simp)]
    rw [hA] at hwm
    have hbk:=hb
    obtain ⟨g1,g2⟩:=li W l hb
    have hpu:=ig (W.foldl (fun b (s : aa)=>(a_ b s.item s.n).1) l) M.item M.n (Dp g1 hl) (aX g2) (by omega) (by omega) (by omega)
    generalize bk (W.foldl (fun b (s : aa)=>(a_ b s.item s.n).1) l) M.item M.n = P at *
    obtain ⟨P1,P2⟩:=P
    dsimp only at *
    rw [show (if 0 < P2 then (l,(104 : Int)) else (P1,0)) = ((if 0 < P2 then l else P1),(if 0 < P2 then (104 : Int) else 0)) by split<;>rfl]
    dsimp only
    refine aF Tryz.func139 68 ?_
    ((try with_reducible refine ab fun N hN hE hT=>?_);(conv=>whnf))
    repeat' (first|exact trivial|((first|((first|apply hT|apply hE|apply hN);clear hN hE hT)|refine kL ?_|(refine ⟨fun hb=>?_,fun hb=>?_⟩<;>(try simp only [nrm] at hb)<;>try exact kZ hb)|refine kR hwm [(0,4)] rfl ?_|refine kS hwm [(0,4)] rfl ?_|refine kV ?_)<;>((try with_reducible refine ab fun N hN hE hT=>?_);(conv=>whnf)))|refine kY ?_ ?_)
    refine ap.loopS ah (σ:=Nat) [6,8,11,41,42,43] (fun k=>[.vec .slot l,.ptr 16 0,.vec .slot ((W.take k).foldl (fun b (s : aa)=>(a_ b s.item s.n).1) l),.vec .slot W,i64 W.length,i64 k]) (fun _=>[(16,.box [.lit (.int .u8 M.item),i64 M.n])]) (fun k=>k ≤ W.length) (fun k=>W.length - k) 0 (by omega) ?_ ?_
    ·exact fB0
    ·intro k hk
     obtain ⟨f1,f2⟩:=li (W.take k) l hbk
     by_cases hlt : k < W.length
     ·have hs:=r1 _ (ao (t:=.slot) hlt)
      have hsp:=vZ ((W.take k).foldl (fun b (s : aa)=>(a_ b s.item s.n).1) l) (elt .slot W k).item (elt .slot W k).n (Dp f1 hl) (aX f2) (by omega)
      have hnx:=rR (l:=l) hlt
      generalize a_ ((W.take k).foldl (fun b (s : aa)=>(a_ b s.item s.n).1) l) (elt .slot W k).item (elt .slot W k).n = P at *
      conv=>whnf
      repeat' (first|exact trivial|((first|((first|apply hT|apply hE|apply hN);clear hN hE hT)|(refine ⟨fun hb=>?_,fun hb=>?_⟩<;>(try simp only [nrm] at hb)<;>try exact kZ hb)|refine kV ?_)<;>((try with_reducible refine ab fun N hN hE hT=>?_);(conv=>whnf)))|refine kY ?_ ?_)
      refine .to (k + 1) hlt (by omega) ?_
      conv=>whnf
      repeat' (first|exact trivial|((first|((first|apply hT|apply hE|apply hN);clear hN hE hT)|(refine ⟨fun hb=>?_,fun hb=>?_⟩<;>(try simp only [nrm] at hb)<;>try exact kZ hb)|refine kV ?_)<;>((try with_reducible refine ab fun N hN hE hT=>?_);(conv=>whnf)))|refine kY ?_ ?_)
      all_goals first|rfl|exact hnx.symm|trace_state
     ·obtain rfl : k = W.length:=by omega
      rw [List.take_length]
      conv=>whnf
      repeat' (first|exact trivial|((first|((first|apply hT|apply hE|apply hN);clear hN hE hT)|(refine ⟨fun hb=>?_,fun hb=>?_⟩<;>(try simp only [nrm] at hb)<;>try exact kZ hb)|refine kV ?_)<;>((try with_reducible refine ab fun N hN hE hT=>?_);(conv=>whnf)))|refine kY ?_ ?_)
      all_goals first|exact (if_pos hb).symm|exact (if_neg (Int.not_lt.2 hb)).symm|rfl|trace_state
 ·have hre:=AD n hn
  rw [lg hn]
  dsimp only
  cases hb : an l with
  | false =>
   rw [if_pos rfl]
   rw [hb] at hrt
   refine aF Tryz.func139 68 ?_
   exact fA0
  | true =>
   rw [if_neg (by simp)]
   rw [hb] at hrt
   refine aF Tryz.func139 68 ?_
   exact fA0
open Go Go.RowKit Eng
theorem Jl (w : Wld) (p : Player) (c : Cmd) (hR : RW w) (hp : a7 p = true) : Ev1 Tryz.prog 70 [.ptr 0 0] (cJ w p c) (i64 (dJ w p c).2) (d0 (dJ w p c)):=by
 have hw:=bZ hR
 have hP:=bS hp
 obtain ⟨_,_,hPl,hPb2,_⟩:=cm hp
 have hPb : True ∧ an p.bag = true:=⟨trivial,hPb2⟩
 have hM : (cF p.bag c.c).1.length = p.bag.length ∧ an (cF p.bag c.c).1 = true:=we p.bag c.c hPb.2
 have hma:=Hr p.bag c.c hP.nb hP.bag
 unfold dJ
 generalize cF p.bag c.c = M at *
 obtain ⟨M1,M2⟩:=M
 dsimp only at *
 by_cases h1 : M2 = 0
 ·subst h1
  rw [if_neg (not_not_intro rfl)]
  have hst:=jO w { p with bag:=M1 } c hw (dU hP (aX hM.2) (by have:=hP.nb;omega))
  generalize am w { p with bag:=M1 } = R at *
  by_cases hz : R.2 = 0
  ·rw [ef hz] at hst ⊢
   rw [hz] at hst ⊢
   refine eF Tryz.func70 28 ?_
   exact fP2 hst hma
  ·rw [dE hz] at hst ⊢
   refine eF Tryz.func70 28 ?_
   exact fP2 hst hma
 ·rw [if_pos h1,bt h1]
  refine eF Tryz.func70 28 ?_
  exact fA0
theorem Kx (w : Wld) (p : Player) (c : Cmd) (hR : RW w) (hp : a7 p = true) : Ev1 Tryz.prog 71 [.ptr 0 0] (cJ w p c) (i64 (gI w p).2) (d0 (gI w p)):=by
 have hw:=bZ hR
 have hP:=bS hp
 obtain ⟨_,_,hPl,hPb2,_⟩:=cm hp
 have hPb : True ∧ an p.bag = true:=⟨trivial,hPb2⟩
 have hM : (a_ p.bag 11 1).1.length = p.bag.length ∧ an (a_ p.bag 11 1).1 = true:=(fun h=>⟨h.1,h.2 hPb.2⟩) (oL p.bag 11 1)
 have hma:=vZ p.bag 11 1 (by have:=hP.nb;omega) hP.bag (by omega)
 unfold gI
 generalize a_ p.bag 11 1 = M at *
 obtain ⟨M1,M2⟩:=M
 dsimp only at *
 by_cases h1 : M2 = 0
 ·subst h1
  rw [if_neg (not_not_intro rfl)]
  have hst:=jO w { p with bag:=M1 } c hw (dU hP (aX hM.2) (by have:=hP.nb;omega))
  generalize am w { p with bag:=M1 } = R at *
  by_cases hz : R.2 = 0
  ·rw [ef hz] at hst ⊢
   rw [hz] at hst ⊢
   refine eF Tryz.func71 23 ?_
   exact fP2 hst hma
  ·rw [dE hz] at hst ⊢
   refine eF Tryz.func71 23 ?_
   exact fP2 hst hma
 ·rw [if_pos h1,bt h1]
  refine eF Tryz.func71 23 ?_
  exact fA0
open Go Go.RowKit Eng
theorem v7 (cell : Int) : ∀ (l m : List aa) (a : Chunk × List aa × Bool),bD cell (l ++ m) a = bD cell m (bD cell l a)
 | [],m,a=>rfl
 | s :: r,m,(k,b,z)=>by
  simp only [List.cons_append,bD]
  exact v7 cell r m _
theorem lj {cell : Int} {l : List aa} {k : Nat} (h : k < l.length) {a : Chunk × List aa × Bool} {K : Chunk} {B : List aa} {z : Bool} (he : bD cell (l.take k) a = (K,B,z)) :
  bD cell (l.take (k + 1)) a = (if 0 < (bk B (elt .slot l k).item (elt .slot l k).n).2 then (b9 K cell ⟨(elt .slot l k).item,(bk B (elt .slot l k).item (elt .slot l k).n).2⟩).1 else K,(bk B (elt .slot l k).item (elt .slot l k).n).1,z || decide ((bk B (elt .slot l k).item (elt .slot l k).n).2 < (elt .slot l k).n)):=by
 rw [List.take_add_one,ar .slot l k h,v7,he]
 rfl
theorem Jm (w : Wld) (p : Player) (c : Cmd) (hR : RW w) (hp : a7 p = true) (hi : av w.size p.x p.y = true) : Ev1 Tryz.prog 67 [.ptr 0 0] (cJ w p c) (i64 (eC w p).2) (d0 (eC w p)):=by
 have hw:=bZ hR
 have hP:=bS hp
 obtain ⟨_,_,hPl,hPb,_⟩:=cm hp
 have hxy:=(a6 hR).1 hi
 have hs:=hR.size
 have hpl:=sP w p c p.x p.y hw (by omega) (by omega)
 have hK:=(cd hR hi).1
 have hI:=c9 p.x p.y
 unfold eC
 dsimp only
 generalize aA w p.x p.y = K at *
 generalize aJ p.x p.y = I at *
 have hli:=HR K I (aS hK) (aV hK)
 have hL:=oG hK I
 have hh:=oN hK I
 generalize cE K I = G at *
 obtain ⟨K0,L⟩:=G
 dsimp only at *
 have hLl : L.length ≤ 32:=by omega
 by_cases h0 : L.length = 0
 ·rw [if_pos h0,bt (e:=105) (by decide)]
  refine eF Tryz.func67 81 ?_
  exact fP2 hpl hli
 ·rw [if_neg h0]
  obtain ⟨i1,i2,i3,_⟩:=gu I hI L K0 p.bag false hL.1 hPb hL.2 hh
  cases hz : (bD I L (K0,p.bag,false)).2.2 with
  | false =>
   rw [if_pos rfl,bt (e:=104) (by decide)]
   have hke : True:=trivial
   refine eF Tryz.func67 81 ?_
   ((try with_reducible refine ab fun N hN hE hT=>?_);(conv=>whnf))
   repeat' (first|exact trivial|((first|((first|apply hT|apply hE|apply hN);clear hN hE hT)|refine kL ?_|(refine ⟨fun hb=>?_,fun hb=>?_⟩<;>(try simp only [nrm] at hb)<;>try exact kZ hb)|refine kR hpl [(0,0)] rfl ?_|refine kS hpl [(0,0)] rfl ?_|refine kV ?_)<;>((try with_reducible refine ab fun N hN hE hT=>?_);(conv=>whnf)))|refine kY ?_ ?_)
   refine ap.loopS ah (σ:=Nat) [0,3,4,6,34,35,36] (fun k=>[.ptr 0 0,.ptr 200006 0,i64 I,bol (bD I (L.take k) (K0,p.bag,false)).2.2,.vec .slot L,i64 L.length,i64 k])
    (fun k=>[(0,.box (Dl w { p with bag:=(bD I (L.take k) (K0,p.bag,false)).2.1 } c)),(200006,.box (bB (bD I (L.take k) (K0,p.bag,false)).1))]) (fun k=>k ≤ L.length) (fun k=>L.length - k) 0 (by omega) ?_ ?_
   ·exact fB0
   ·intro k hk
    by_cases hlt : k < L.length
    ·have hsl:=hL.2 _ (ao (t:=.slot) hlt)
     obtain ⟨hs1,hs2,hs3⟩:=gZ hsl
     obtain ⟨j1,j2,j3,_,_,_⟩:=gu I hI (L.take k) K0 p.bag false hL.1 hPb (fun s hs=>hL.2 s (List.mem_of_mem_take hs)) (by rw [List.length_take];omega)
     obtain ⟨⟨A1,A2,A3⟩,hA⟩ : ∃ A,A = bD I (L.take k) (K0,p.bag,false):=⟨_,rfl⟩
     have hN:=lj hlt hA.symm
     rw [← hA] at j1 j2 j3 ⊢
     dsimp only at j1 j2 j3 ⊢
     clear hA
     have hpu:=ig A2 (elt .slot L k).item (elt .slot L k).n (by omega) (aX j2) hs1.1 hs1.2 (by omega)
     have hle:=eT (l:=A2) (i:=(elt .slot L k).item) (n:=(elt .slot L k).n) (by omega)
     generalize bk A2 (elt .slot L k).item (elt .slot L k).n = Q at *
     obtain ⟨Q1,Q2⟩:=Q
     dsimp only at *
     have hdr:=oP A1 I ⟨(elt .slot L k).item,Q2⟩ (aS j1) (aV j1) hs1
     generalize b9 A1 I ⟨(elt .slot L k).item,Q2⟩ = D at *
     obtain ⟨D1,D2⟩:=D
     dsimp only at *
     by_cases hq : 0 < Q2
     ·rw [if_pos hq] at hN
      cases A3
      all_goals
       conv=>whnf
       repeat' (first|exact trivial|((first|((first|apply hT|apply hE|apply hN);clear hN hE hT)|(refine ⟨fun hb=>?_,fun hb=>?_⟩<;>(try simp only [nrm] at hb)<;>try exact kZ hb)|refine kV ?_)<;>((try with_reducible refine ab fun N hN hE hT=>?_);(conv=>whnf)))|refine kY ?_ ?_)
       all_goals
        refine .to (k + 1) hlt (by omega) ?_
        rw [hN]
        conv=>whnf
        repeat' (first|exact trivial|((first|((first|apply hT|apply hE|apply hN);clear hN hE hT)|(refine ⟨fun hb=>?_,fun hb=>?_⟩<;>(try simp only [nrm] at hb)<;>try exact kZ hb)|refine kV ?_)<;>((try with_reducible refine ab fun N hN hE hT=>?_);(conv=>whnf)))|refine kY ?_ ?_)
        all_goals first|rfl|(refine congrArg Value.bool ?_;simp_all;done)|(refine congrArg Value.bool ?_;simp_all;omega)|trace_state
     ·rw [if_neg hq] at hN
      cases A3
      all_goals
       conv=>whnf
       repeat' (first|exact trivial|((first|((first|apply hT|apply hE|apply hN);clear hN hE hT)|(refine ⟨fun hb=>?_,fun hb=>?_⟩<;>(try simp only [nrm] at hb)<;>try exact kZ hb)|refine kV ?_)<;>((try with_reducible refine ab fun N hN hE hT=>?_);(conv=>whnf)))|refine kY ?_ ?_)
       all_goals
        refine .to (k + 1) hlt (by omega) ?_
        rw [hN]
        conv=>whnf
        repeat' (first|exact trivial|((first|((first|apply hT|apply hE|apply hN);clear hN hE hT)|(refine ⟨fun hb=>?_,fun hb=>?_⟩<;>(try simp only [nrm] at hb)<;>try exact kZ hb)|refine kV ?_)<;>((try with_reducible refine ab fun N hN hE hT=>?_);(conv=>whnf)))|refine kY ?_ ?_)
        all_goals first|rfl|(refine congrArg Value.bool ?_;simp_all;done)|(refine congrArg Value.bool ?_;simp_all;omega)|trace_state
    ·obtain rfl : k = L.length:=by omega
     rw [List.take_length,hz]
     exact fQ1 hke
  | true =>
   rw [if_neg (by simp)]
   have hke:=lM w { p with bag:=(bD I L (K0,p.bag,false)).2.1 } c (bD I L (K0,p.bag,false)).1 hw (dU hP (aX i2) (by omega)) (aS i1) (aV i1)
   generalize hRR : cV w (bD I L (K0,p.bag,false)).1 { p with bag:=(bD I L (K0,p.bag,false)).2.1 } = R at *
   by_cases hr : R.2 = 0
   ·rw [ef hr] at hke ⊢
    rw [hr] at hke ⊢
    refine eF Tryz.func67 81 ?_
    ((try with_reducible refine ab fun N hN hE hT=>?_);(conv=>whnf))
    repeat' (first|exact trivial|((first|((first|apply hT|apply hE|apply hN);clear hN hE hT)|refine kL ?_|(refine ⟨fun hb=>?_,fun hb=>?_⟩<;>(try simp only [nrm] at hb)<;>try exact kZ hb)|refine kR hpl [(0,0)] rfl ?_|refine kS hpl [(0,0)] rfl ?_|refine kV ?_)<;>((try with_reducible refine ab fun N hN hE hT=>?_);(conv=>whnf)))|refine kY ?_ ?_)
    refine ap.loopS ah (σ:=Nat) [0,3,4,6,34,35,36] (fun k=>[.ptr 0 0,.ptr 200006 0,i64 I,bol (bD I (L.take k) (K0,p.bag,false)).2.2,.vec .slot L,i64 L.length,i64 k])
     (fun k=>[(0,.box (Dl w { p with bag:=(bD I (L.take k) (K0,p.bag,false)).2.1 } c)),(200006,.box (bB (bD I (L.take k) (K0,p.bag,false)).1))]) (fun k=>k ≤ L.length) (fun k=>L.length - k) 0 (by omega) ?_ ?_
    ·exact fB0
    ·intro k hk
     by_cases hlt : k < L.length
     ·have hsl:=hL.2 _ (ao (t:=.slot) hlt)
      obtain ⟨hs1,hs2,hs3⟩:=gZ hsl
      obtain ⟨j1,j2,j3,_,_,_⟩:=gu I hI (L.take k) K0 p.bag false hL.1 hPb (fun s hs=>hL.2 s (List.mem_of_mem_take hs)) (by rw [List.length_take];omega)
      obtain ⟨⟨A1,A2,A3⟩,hA⟩ : ∃ A,A = bD I (L.take k) (K0,p.bag,false):=⟨_,rfl⟩
      have hN:=lj hlt hA.symm
      rw [← hA] at j1 j2 j3 ⊢
      dsimp only at j1 j2 j3 ⊢
      clear hA
      have hpu:=ig A2 (elt .slot L k).item (elt .slot L k).n (by omega) (aX j2) hs1.1 hs1.2 (by omega)
      have hle:=eT (l:=A2) (i:=(elt .slot L k).item) (n:=(elt .slot L k).n) (by omega)
      generalize bk A2 (elt .slot L k).item (elt .slot L k).n = Q at *
      obtain ⟨Q1,Q2⟩:=Q
      dsimp only at *
      have hdr:=oP A1 I ⟨(elt .slot L k).item,Q2⟩ (aS j1) (aV j1) hs1
      generalize b9 A1 I ⟨(elt .slot L k).item,Q2⟩ = D at *
      obtain ⟨D1,D2⟩:=D
      dsimp only at *
      by_cases hq : 0 < Q2
      ·rw [if_pos hq] at hN
       cases A3
       all_goals
        conv=>whnf
        repeat' (first|exact trivial|((first|((first|apply hT|apply hE|apply hN);clear hN hE hT)|(refine ⟨fun hb=>?_,fun hb=>?_⟩<;>(try simp only [nrm] at hb)<;>try exact kZ hb)|refine kV ?_)<;>((try with_reducible refine ab fun N hN hE hT=>?_);(conv=>whnf)))|refine kY ?_ ?_)
        all_goals
         refine .to (k + 1) hlt (by omega) ?_
         rw [hN]
         conv=>whnf
         repeat' (first|exact trivial|((first|((first|apply hT|apply hE|apply hN);clear hN hE hT)|(refine ⟨fun hb=>?_,fun hb=>?_⟩<;>(try simp only [nrm] at hb)<;>try exact kZ hb)|refine kV ?_)<;>((try with_reducible refine ab fun N hN hE hT=>?_);(conv=>whnf)))|refine kY ?_ ?_)
         all_goals first|rfl|(refine congrArg Value.bool ?_;simp_all;done)|(refine congrArg Value.bool ?_;simp_all;omega)|trace_state
      ·rw [if_neg hq] at hN
       cases A3
       all_goals
        conv=>whnf
        repeat' (first|exact trivial|((first|((first|apply hT|apply hE|apply hN);clear hN hE hT)|(refine ⟨fun hb=>?_,fun hb=>?_⟩<;>(try simp only [nrm] at hb)<;>try exact kZ hb)|refine kV ?_)<;>((try with_reducible refine ab fun N hN hE hT=>?_);(conv=>whnf)))|refine kY ?_ ?_)
        all_goals
         refine .to (k + 1) hlt (by omega) ?_
         rw [hN]
         conv=>whnf
         repeat' (first|exact trivial|((first|((first|apply hT|apply hE|apply hN);clear hN hE hT)|(refine ⟨fun hb=>?_,fun hb=>?_⟩<;>(try simp only [nrm] at hb)<;>try exact kZ hb)|refine kV ?_)<;>((try with_reducible refine ab fun N hN hE hT=>?_);(conv=>whnf)))|refine kY ?_ ?_)
         all_goals first|rfl|(refine congrArg Value.bool ?_;simp_all;done)|(refine congrArg Value.bool ?_;simp_all;omega)|trace_state
     ·obtain rfl : k = L.length:=by omega
      rw [List.take_length,hz]
      exact fQ1 hke
   ·rw [dE hr] at hke ⊢
    refine eF Tryz.func67 81 ?_
    ((try with_reducible refine ab fun N hN hE hT=>?_);(conv=>whnf))
    repeat' (first|exact trivial|((first|((first|apply hT|apply hE|apply hN);clear hN hE hT)|refine kL ?_|(refine ⟨fun hb=>?_,fun hb=>?_⟩<;>(try simp only [nrm] at hb)<;>try exact kZ hb)|refine kR hpl [(0,0)] rfl ?_|refine kS hpl [(0,0)] rfl ?_|refine kV ?_)<;>((try with_reducible refine ab fun N hN hE hT=>?_);(conv=>whnf)))|refine kY ?_ ?_)
    refine ap.loopS ah (σ:=Nat) [0,3,4,6,34,35,36] (fun k=>[.ptr 0 0,.ptr 200006 0,i64 I,bol (bD I (L.take k) (K0,p.bag,false)).2.2,.vec .slot L,i64 L.length,i64 k])
     (fun k=>[(0,.box (Dl w { p with bag:=(bD I (L.take k) (K0,p.bag,false)).2.1 } c)),(200006,.box (bB (bD I (L.take k) (K0,p.bag,false)).1))]) (fun k=>k ≤ L.length) (fun k=>L.length - k) 0 (by omega) ?_ ?_
    ·exact fB0
    ·intro k hk
     by_cases hlt : k < L.length
     ·have hsl:=hL.2 _ (ao (t:=.slot) hlt)
      obtain ⟨hs1,hs2,hs3⟩:=gZ hsl
      obtain ⟨j1,j2,j3,_,_,_⟩:=gu I hI (L.take k) K0 p.bag false hL.1 hPb (fun s hs=>hL.2 s (List.mem_of_mem_take hs)) (by rw [List.length_take];omega)
      obtain ⟨⟨A1,A2,A3⟩,hA⟩ : ∃ A,A = bD I (L.take k) (K0,p.bag,false):=⟨_,rfl⟩
      have hN:=lj hlt hA.symm
      rw [← hA] at j1 j2 j3 ⊢
      dsimp only at j1 j2 j3 ⊢
      clear hA
      have hpu:=ig A2 (elt .slot L k).item (elt .slot L k).n (by omega) (aX j2) hs1.1 hs1.2 (by omega)
      have hle:=eT (l:=A2) (i:=(elt .slot L k).item) (n:=(elt .slot L k).n) (by omega)
      generalize bk A2 (elt .slot L k).item (elt .slot L k).n = Q at *
      obtain ⟨Q1,Q2⟩:=Q
      dsimp only at *
      have hdr:=oP A1 I ⟨(elt .slot L k).item,Q2⟩ (aS j1) (aV j1) hs1
      generalize b9 A1 I ⟨(elt .slot L k).item,Q2⟩ = D at *
      obtain ⟨D1,D2⟩:=D
      dsimp only at *
      by_cases hq : 0 < Q2
      ·rw [if_pos hq] at hN
       cases A3
       all_goals
        conv=>whnf
        repeat' (first|exact trivial|((first|((first|apply hT|apply hE|apply hN);clear hN hE hT)|(refine ⟨fun hb=>?_,fun hb=>?_⟩<;>(try simp only [nrm] at hb)<;>try exact kZ hb)|refine kV ?_)<;>((try with_reducible refine ab fun N hN hE hT=>?_);(conv=>whnf)))|refine kY ?_ ?_)
        all_goals
         refine .to (k + 1) hlt (by omega) ?_
         rw [hN]
         conv=>whnf
         repeat' (first|exact trivial|((first|((first|apply hT|apply hE|apply hN);clear hN hE hT)|(refine ⟨fun hb=>?_,fun hb=>?_⟩<;>(try simp only [nrm] at hb)<;>try exact kZ hb)|refine kV ?_)<;>((try with_reducible refine ab fun N hN hE hT=>?_);(conv=>whnf)))|refine kY ?_ ?_)
         all_goals first|rfl|(refine congrArg Value.bool ?_;simp_all;done)|(refine congrArg Value.bool ?_;simp_all;omega)|trace_state
      ·rw [if_neg hq] at hN
       cases A3
       all_goals
        conv=>whnf
        repeat' (first|exact trivial|((first|((first|apply hT|apply hE|apply hN);clear hN hE hT)|(refine ⟨fun hb=>?_,fun hb=>?_⟩<;>(try simp only [nrm] at hb)<;>try exact kZ hb)|refine kV ?_)<;>((try with_reducible refine ab fun N hN hE hT=>?_);(conv=>whnf)))|refine kY ?_ ?_)
        all_goals
         refine .to (k + 1) hlt (by omega) ?_
         rw [hN]
         conv=>whnf
         repeat' (first|exact trivial|((first|((first|apply hT|apply hE|apply hN);clear hN hE hT)|(refine ⟨fun hb=>?_,fun hb=>?_⟩<;>(try simp only [nrm] at hb)<;>try exact kZ hb)|refine kV ?_)<;>((try with_reducible refine ab fun N hN hE hT=>?_);(conv=>whnf)))|refine kY ?_ ?_)
         all_goals first|rfl|(refine congrArg Value.bool ?_;simp_all;done)|(refine congrArg Value.bool ?_;simp_all;omega)|trace_state
     ·obtain rfl : k = L.length:=by omega
      rw [List.take_length,hz]
      exact fQ1 hke
open Go Go.RowKit Eng
def iL (k n : Int) : Bool:=if k = 109 then bm (-1) 1 n else if k = 112 then bm 0 127 n else if k = 105 then bm 0 1073741824 n else if k = 115 then bm 0 7 n else if k = 110 then bm 1 1000 n else if k = 114 then bm 0 1000 n else bm 0 0 n
theorem zb (k n : Int) : Api Tryz.prog 123 [.lit (.int .u8 k),i64 n] (bol (iL k n)):=by
 unfold iL bm
 refine aF Tryz.func123 26 ?_
 ((try with_reducible refine ab fun N hN hE hT=>?_);(conv=>whnf))
 repeat' (first|exact trivial|((first|((first|apply hT|apply hE|apply hN);clear hN hE hT)|(refine ⟨fun hb=>?_,fun hb=>?_⟩<;>(try simp only [nrm] at hb)<;>try exact kZ hb)|refine kV ?_)<;>((try with_reducible refine ab fun N hN hE hT=>?_);(conv=>whnf)))|refine kY ?_ ?_)
 all_goals first|(refine congrArg Value.bool ?_;simp_all;done)|(refine congrArg Value.bool ?_;simp_all;omega)|trace_state
open Go Go.RowKit Eng
def oA (d : Int) : List UInt8:=if d = 1 ∨ d = 5 ∨ d = 10 ∨ d = 12 ∨ d = 13 then [45,45,45,45] else if d = 2 then [109,109,45,45] else if d = 3 then [112,112,45,45] else if d = 4 then [112,112,115,45]
 else if d = 6 then [45,45,115,110] else if d = 7 ∨ d = 8 then [112,112,115,110] else if d = 9 then [45,45,114,45] else if d = 11 then [105,45,115,110] else []
theorem q9 {d : Int} (h0 : 0 ≤ d) (h : d < 14) : d = 0 ∨ d = 1 ∨ d = 2 ∨ d = 3 ∨ d = 4 ∨ d = 5 ∨ d = 6 ∨ d = 7 ∨ d = 8 ∨ d = 9 ∨ d = 10 ∨ d = 11 ∨ d = 12 ∨ d = 13:=by omega
theorem Hs (d : Int) (h0 : 14 ≤ d) (h1 : d ≤ 255) : Api Tryz.prog 122 [.lit (.int .u8 d)] (.lit (.string ⟨#[]⟩)):=by
 refine aF Tryz.func122 10 ?_
 exact fA0
theorem zd (d : Int) (h0 : 0 ≤ d) (h1 : d < 14) : Api Tryz.prog 122 [.lit (.int .u8 d)] (.lit (.string ⟨(oA d).toArray⟩)):=by
 rcases q9 h0 h1 with rfl|rfl|rfl|rfl|rfl|rfl|rfl|rfl|rfl|rfl|rfl|rfl|rfl|rfl
 all_goals
  refine aF Tryz.func122 10 ?_
  ((try with_reducible refine ab fun N hN hE hT=>?_);(conv=>whnf))
  repeat' (first|exact trivial|((first|((first|apply hT|apply hE|apply hN);clear hN hE hT)|refine kL ?_|(refine ⟨fun hb=>?_,fun hb=>?_⟩<;>(try simp only [nrm] at hb)<;>try exact kZ hb)|(refine ⟨⟨by decide,by decide⟩,?_⟩)|refine kV ?_)<;>((try with_reducible refine ab fun N hN hE hT=>?_);(conv=>whnf)))|refine kY ?_ ?_)
  all_goals first|rfl|trace_state
open Go Go.RowKit Eng
theorem pR {c : Cmd} (h : 14 ≤ c.dol) : bG c = false:=by
 unfold bG
 (repeat' split)<;>first|omega|rfl
theorem Fm (c : Cmd) (h0 : 14 ≤ c.dol) (h1 : c.dol ≤ 255) : Api Tryz.prog 62 [co c] (bol false):=by
 have hs:=Hs c.dol h0 h1
 refine aF Tryz.func62 32 ?_
 ((try with_reducible refine ab fun N hN hE hT=>?_);(conv=>whnf))
 repeat' (first|exact trivial|((first|((first|apply hT|apply hE|apply hN);clear hN hE hT)|(refine ⟨fun hb=>?_,fun hb=>?_⟩<;>(try simp only [nrm] at hb)<;>try exact kZ hb)|refine kV ?_)<;>((try with_reducible refine ab fun N hN hE hT=>?_);(conv=>whnf)))|refine kY ?_ ?_)
 all_goals first|rfl|(exact absurd rfl hb)|trace_state
theorem Ht (a b c n : Int) : Api Tryz.prog 62 [.agg [.lit (.int .u8 0),i64 a,i64 b,i64 c,i64 n]] (bol false):=by
 have hs : Api Tryz.prog 122 [.lit (.int .u8 0)] (.lit (.string ⟨#[]⟩)):=zd 0 (by omega) (by omega)
 refine aF Tryz.func62 32 ?_
 ((try with_reducible refine ab fun N hN hE hT=>?_);(conv=>whnf))
 repeat' (first|exact trivial|((first|((first|apply hT|apply hE|apply hN);clear hN hE hT)|(refine ⟨fun hb=>?_,fun hb=>?_⟩<;>(try simp only [nrm] at hb)<;>try exact kZ hb)|refine kV ?_)<;>((try with_reducible refine ab fun N hN hE hT=>?_);(conv=>whnf)))|refine kY ?_ ?_)
 all_goals first|rfl|(exact absurd rfl hb)|trace_state
theorem Hu (n : Int) : dB n = iL 45 n:=by
 show decide (n = 0) = (decide (0 ≤ n) && decide (n ≤ 0))
 rw [Bool.eq_iff_iff,Bool.and_eq_true,decide_eq_true_eq,decide_eq_true_eq,decide_eq_true_eq];omega
theorem ze (a : ByteArray) : ∀ (n i : Nat) (r : List UInt8),a.size - i = n → (ByteArray.toList.loop a i r).length = r.length + n:=by
 intro n
 induction n with
 | zero =>
  intro i r h
  unfold ByteArray.toList.loop
  rw [if_neg (by omega)];simp
 | succ n ih =>
  intro i r h
  unfold ByteArray.toList.loop
  rw [if_pos (by omega),ih (i + 1) _ (by omega)]
  simp;omega
theorem Ky {l : List UInt8} (h : ¬ l.length = 0) : ¬ (⟨l.toArray⟩ : ByteArray).toList = (⟨#[]⟩ : ByteArray).toList:=by
 intro e
 have e2:=congrArg List.length e
 unfold ByteArray.toList at e2
 rw [ze _ _ _ _ rfl,ze _ _ _ _ rfl] at e2
 have e3 : (⟨l.toArray⟩ : ByteArray).size = l.length:=by show l.toArray.size = _;simp
 have e4 : (⟨#[]⟩ : ByteArray).size = 0:=rfl
 rw [e3,e4] at e2
 simp at e2
 exact h (by rw [e2];rfl)
def ltr (d : Int) (j : Nat) : Int:=((oA d)[j]?.map (fun b : UInt8=>(b.toNat : Int))).getD 0
theorem f0 {x y z u : Bool} (h : x = false) : (x && (y && (z && u))) = false:=by rw [h];rfl
theorem f1 {x y z u : Bool} (h : y = false) : (x && (y && (z && u))) = false:=by rw [h];simp
theorem f2 {x y z u : Bool} (h : z = false) : (x && (y && (z && u))) = false:=by rw [h];simp
theorem f3 {x y z u : Bool} (h : u = false) : (x && (y && (z && u))) = false:=by rw [h];simp
theorem Fo (d a b c n : Int) (h0 : 1 ≤ d) (h1 : d < 14) : Api Tryz.prog 62 [.agg [.lit (.int .u8 d),i64 a,i64 b,i64 c,i64 n]] (bol (iL (ltr d 0) a && (iL (ltr d 1) b && (iL (ltr d 2) c && iL (ltr d 3) n)))):=by
 have hs:=zd d (by omega) h1
 have hl : ¬ (oA d).length = 0:=by
  rcases q9 (by omega) h1 with rfl|rfl|rfl|rfl|rfl|rfl|rfl|rfl|rfl|rfl|rfl|rfl|rfl|rfl
  ·omega
  all_goals decide
 have hne:=Ky hl
 clear hl
 obtain ⟨D,hD⟩ : ∃ D,D = d:=⟨d,rfl⟩
 rcases q9 (by omega) h1 with rfl|rfl|rfl|rfl|rfl|rfl|rfl|rfl|rfl|rfl|rfl|rfl|rfl|rfl
 ·omega
 all_goals
  refine aF Tryz.func62 32 ?_
  ((try with_reducible refine ab fun N hN hE hT=>?_);(conv=>whnf))
  repeat' (first|exact trivial|((first|((first|apply hT|apply hE|apply hN);clear hN hE hT)|(refine ⟨fun hb=>?_,fun hb=>?_⟩<;>(try simp only [nrm] at hb)<;>try exact kZ hb)|refine kV ?_)<;>((try with_reducible refine ab fun N hN hE hT=>?_);(conv=>whnf)))|refine kY ?_ ?_)
  refine ap.loopS ah (σ:=Nat) [3,4,20,21] (fun k=>[.lit (.string ⟨(oA D).toArray⟩),.lit (.func (.func 123) #[] #[]),.agg [i64 a,i64 b,i64 c,i64 n],i64 k]) (fun _=>[]) (fun k=>k ≤ 4 ∧ (0 < k → iL (ltr D 0) a = true) ∧ (1 < k → iL (ltr D 1) b = true) ∧ (2 < k → iL (ltr D 2) c = true) ∧ (3 < k → iL (ltr D 3) n = true)) (fun k=>4 - k) 0 (by omega) ?_ ?_
  ·subst hD
   exact fB0
  ·subst hD
   rintro k ⟨hk,i0,i1,i2,i3⟩
   rcases (by omega : k = 0 ∨ k = 1 ∨ k = 2 ∨ k = 3 ∨ k = 4) with rfl|rfl|rfl|rfl|rfl
   all_goals
    conv=>whnf
    repeat' (first|exact trivial|((first|((first|apply hT|apply hE|apply hN);clear hN hE hT)|refine kL ?_|(refine ⟨fun hb=>?_,fun hb=>?_⟩<;>(try simp only [nrm] at hb)<;>try exact kZ hb)|(refine isE 123 ?_;refine kA (zb _ _) ?_)|(refine isD 123 ?_;refine kD (zb _ _) ?_)|refine kV ?_)<;>((try with_reducible refine ab fun N hN hE hT=>?_);(conv=>whnf)))|refine kY ?_ ?_)
   all_goals first
    | (refine congrArg Value.bool ?_;rw [i0 (by omega),i1 (by omega),i2 (by omega),i3 (by omega)];rfl)
    | exact congrArg Value.bool (f0 hb)
    | exact congrArg Value.bool (f1 hb)
    | exact congrArg Value.bool (f2 hb)
    | exact congrArg Value.bool (f3 hb)
    | refine .to 1 ⟨by omega,fun _=>hb,fun h=>absurd h (by omega),fun h=>absurd h (by omega),fun h=>absurd h (by omega)⟩ (by omega) ?_
    | refine .to 2 ⟨by omega,fun _=>i0 (by omega),fun _=>hb,fun h=>absurd h (by omega),fun h=>absurd h (by omega)⟩ (by omega) ?_
    | refine .to 3 ⟨by omega,fun _=>i0 (by omega),fun _=>i1 (by omega),fun _=>hb,fun h=>absurd h (by omega)⟩ (by omega) ?_
    | refine .to 4 ⟨by omega,fun _=>i0 (by omega),fun _=>i1 (by omega),fun _=>i2 (by omega),fun _=>hb⟩ (by omega) ?_
    | trace_state
   all_goals
    conv=>whnf
    repeat' (first|exact trivial|((first|((first|apply hT|apply hE|apply hN);clear hN hE hT)|(refine ⟨fun hb=>?_,fun hb=>?_⟩<;>(try simp only [nrm] at hb)<;>try exact kZ hb)|refine kV ?_)<;>((try with_reducible refine ab fun N hN hE hT=>?_);(conv=>whnf)))|refine kY ?_ ?_)
   all_goals rfl
theorem Fp {d : Int} (a b e n : Int) (h0 : 1 ≤ d) (h1 : d < 14) : bG ⟨d,a,b,e,n⟩ = (iL (ltr d 0) a && (iL (ltr d 1) b && (iL (ltr d 2) e && iL (ltr d 3) n))):=by
 unfold bG
 simp only [Hu]
 rcases q9 (by omega) h1 with rfl|rfl|rfl|rfl|rfl|rfl|rfl|rfl|rfl|rfl|rfl|rfl|rfl|rfl
 ·omega
 all_goals rfl
theorem jn (c : Cmd) (h0 : 0 ≤ c.dol) (h1 : c.dol ≤ 255) : Api Tryz.prog 62 [co c] (bol (bG c)):=by
 by_cases h : c.dol < 14
 ·obtain ⟨d,a,b,e,n⟩:=c
  dsimp only at h h0
  by_cases hd : d = 0
  ·subst hd;exact Ht a b e n
  ·rw [Fp a b e n (by omega) h]
   exact Fo d a b e n (by omega) h
 ·rw [pR (by omega)]
  exact Fm c (by omega) h1
open Go Go.RowKit Eng
def jo : Player:=⟨-1,0,0,[],0,[],false⟩
theorem Hv : OkP jo:=⟨by simp [jo],by simp [jo],by simp [jo],by simp [jo]⟩
theorem Hw (w : Wld) : (am w jo).1 = w:=by
 have hs : a7 jo = false:=by rfl
 unfold am
 split
 ·rfl
 ·rw [if_pos (.inl hs)]
theorem iM (w : Wld) (hw : OkW w) : Api Tryz.prog 59 [az w,.agg [i64 (-1),i64 0,i64 0,.lit (.slice none 0 0),i64 0,.lit (.slice none 0 0),.ff]] (.tup [az w,i64 (am w jo).2]):=by
 have h:=ml (f_ w jo hw Hv) (args':=[az w,.agg [i64 (-1),i64 0,i64 0,.lit (.slice none 0 0),i64 0,.lit (.slice none 0 0),.ff]])
  (.cons (Le.refl _) (.cons (Le.agg (.cons (Le.refl _) (.cons (Le.refl _) (.cons (Le.refl _) (.cons (Le.nil _) (.cons (Le.refl _) (.cons (Le.nil _) (.cons (Le.ff rfl) .nil)))))))) .nil))
 rw [Hw] at h
 exact h
def nj (w : Wld) (id : Int) : Player:=⟨id,cL w.size id,0,ce,-1,[],false⟩
theorem Hx (w : Wld) (id : Int) : OkP (nj w id):=⟨fun s hs=>by rw [(List.mem_replicate.1 hs).2];exact ⟨by decide,by decide⟩,by simp [nj],by show ce.length * 16 ≤ _;rw [show ce.length = 8 from rfl];omega,by simp [nj]⟩
theorem Hy (w : Wld) (id : Int) (hw : OkW w) : Api Tryz.prog 59 [az w,.agg [i64 id,i64 (cL w.size id),i64 0,.vec .slot ce,i64 (-1),.lit (.slice none 0 0),.ff]] (.tup [az (am w (nj w id)).1,i64 (am w (nj w id)).2]):=
 ml (f_ w (nj w id) hw (Hx w id)) (args':=[az w,.agg [i64 id,i64 (cL w.size id),i64 0,.vec .slot ce,i64 (-1),.lit (.slice none 0 0),.ff]])
  (.cons (Le.refl _) (.cons (Le.agg (.cons (Le.refl _) (.cons (Le.refl _) (.cons (Le.refl _) (.cons (Le.refl _) (.cons (Le.refl _) (.cons (Le.nil _) (.cons (Le.ff rfl) .nil)))))))) .nil))
theorem AF (w : Wld) (id : Int) (c : Cmd) (hw : OkW w) (hR : aO w = false) : Api Tryz.prog 30 [az w,i64 id,co c] (.tup [az w,i64 113]):=by
 have hsn:=iM w hw
 have hrt:=dA w hw
 rw [hR] at hrt
 generalize (am w jo).2 = E at *
 refine aF Tryz.func30 113 ?_
 exact fA0
theorem Fq (w : Wld) (id : Int) (c : Cmd) (hw : OkW w) (hR : aO w = true) (h0 : 0 ≤ c.dol) (h1 : c.dol ≤ 255) (hD : bG c = false) : Api Tryz.prog 30 [az w,i64 id,co c] (.tup [az w,i64 109]):=by
 have hsn:=iM w hw
 have hrt:=dA w hw
 have hcr:=jn c h0 h1
 rw [hR] at hrt
 rw [hD] at hcr
 generalize (am w jo).2 = E at *
 refine aF Tryz.func30 113 ?_
 exact fA0
theorem zf (w : Wld) (id : Int) (c : Cmd) (hw : OkW w) (hR : aO w = true) (h0 : 0 ≤ c.dol) (h1 : c.dol ≤ 255) (hD : bG c = true) (hp : (ag w id).2 = decide (c.dol = 1)) : Api Tryz.prog 30 [az w,i64 id,co c] (.tup [az w,i64 110]):=by
 have hsn:=iM w hw
 have hrt:=dA w hw
 have hcr:=jn c h0 h1
 have hpl:=fL w id hw
 rw [hR] at hrt
 rw [hD] at hcr
 generalize (am w jo).2 = E at *
 generalize ag w id = P at *
 obtain ⟨P1,P2⟩:=P
 dsimp only at *
 subst hp
 refine aF Tryz.func30 113 ?_
 exact fA0
theorem Dq (w : Wld) (id a b e n : Int) (hw : OkW w) (hR : aO w = true) (hi : id ≤ 9223372036854775807) (hD : bG ⟨1,a,b,e,n⟩ = true) (hp : (ag w id).2 = false) : Api Tryz.prog 30 [az w,i64 id,co ⟨1,a,b,e,n⟩] (.tup [az (am w (nj w id)).1,i64 (am w (nj w id)).2]):=by
 have hsn:=iM w hw
 have hrt:=dA w hw
 have hcr:=jn ⟨1,a,b,e,n⟩ (by dsimp only;omega) (by dsimp only;omega)
 have hpl:=fL w id hw
 have hsp:=FI w.size id hi
 have hsj:=Hy w id hw
 have hnw:=lI 8 (by omega) (by omega)
 change Api _ _ _ (.vec .slot ce) at hnw
 rw [hR] at hrt
 rw [hD] at hcr
 generalize (am w jo).2 = E at *
 generalize am w (nj w id) = J at *
 generalize cL w.size id = SX at *
 generalize ce = NB at *
 generalize ag w id = P at *
 obtain ⟨P1,P2⟩:=P
 dsimp only at *
 subst hp
 refine aF Tryz.func30 113 ?_
 exact fA0
theorem Lj {w : Wld} {p : Player} (a b e n : Int) (hp : bH w p) (hD : bG ⟨2,a,b,e,n⟩ = true) : Ev1 Tryz.prog 64 [.ptr 0 0] (cJ w p ⟨2,a,b,e,n⟩) (i64 (aZ w p ⟨2,a,b,e,n⟩).2) (d0 (aZ w p ⟨2,a,b,e,n⟩)):=by
 have hD' : (bm (-1) 1 a && (bm (-1) 1 b && (dB e && dB n))) = true:=hD
 simp only [bm,Bool.and_eq_true,decide_eq_true_eq] at hD'
 exact Jj w p ⟨2,a,b,e,n⟩ hp.rw hp.sound.1 hp.sound.2 hD'.1 hD'.2.1
theorem Lk {w : Wld} {p : Player} (a b e n : Int) (hp : bH w p) (hD : bG ⟨3,a,b,e,n⟩ = true) : Ev1 Tryz.prog 65 [.ptr 0 0] (cJ w p ⟨3,a,b,e,n⟩) (i64 (aZ w p ⟨3,a,b,e,n⟩).2) (d0 (aZ w p ⟨3,a,b,e,n⟩)):=by
 have hD' : (bm 0 127 a && (bm 0 127 b && (dB e && dB n))) = true:=hD
 simp only [bm,Bool.and_eq_true,decide_eq_true_eq] at hD'
 exact Fi w p ⟨3,a,b,e,n⟩ hp.rw hp.sound.1 hp.sound.2 hD'.1 hD'.2.1
theorem Ll {w : Wld} {p : Player} (a b e n : Int) (hp : bH w p) (hD : bG ⟨4,a,b,e,n⟩ = true) : Ev1 Tryz.prog 66 [.ptr 0 0] (cJ w p ⟨4,a,b,e,n⟩) (i64 (aZ w p ⟨4,a,b,e,n⟩).2) (d0 (aZ w p ⟨4,a,b,e,n⟩)):=by
 have hD' : (bm 0 127 a && (bm 0 127 b && (bm 0 7 e && dB n))) = true:=hD
 simp only [bm,Bool.and_eq_true,decide_eq_true_eq] at hD'
 exact Jk w p ⟨4,a,b,e,n⟩ hp.rw hp.sound.1 hp.sound.2 hD'.1 hD'.2.1
theorem Lm {w : Wld} {p : Player} (a b e n : Int) (hp : bH w p) (hD : bG ⟨5,a,b,e,n⟩ = true) : Ev1 Tryz.prog 67 [.ptr 0 0] (cJ w p ⟨5,a,b,e,n⟩) (i64 (aZ w p ⟨5,a,b,e,n⟩).2) (d0 (aZ w p ⟨5,a,b,e,n⟩)):=by
 exact Jm w p ⟨5,a,b,e,n⟩ hp.rw hp.sound.1 hp.sound.2
theorem Ln {w : Wld} {p : Player} (a b e n : Int) (hp : bH w p) (hD : bG ⟨6,a,b,e,n⟩ = true) : Ev1 Tryz.prog 68 [.ptr 0 0] (cJ w p ⟨6,a,b,e,n⟩) (i64 (aZ w p ⟨6,a,b,e,n⟩).2) (d0 (aZ w p ⟨6,a,b,e,n⟩)):=by
 exact Ji w p ⟨6,a,b,e,n⟩ hp.rw hp.sound.1 hp.sound.2
theorem Lo {w : Wld} {p : Player} (a b e n : Int) (hp : bH w p) (hD : bG ⟨7,a,b,e,n⟩ = true) : Ev1 Tryz.prog 69 [.ptr 0 0] (cJ w p ⟨7,a,b,e,n⟩) (i64 (aZ w p ⟨7,a,b,e,n⟩).2) (d0 (aZ w p ⟨7,a,b,e,n⟩)):=by
 have hD' : (bm 0 127 a && (bm 0 127 b && (bm 0 7 e && bm 1 1000 n))) = true:=hD
 simp only [bm,Bool.and_eq_true,decide_eq_true_eq] at hD'
 exact y8 w p ⟨7,a,b,e,n⟩ hp.rw hp.sound.1 hp.sound.2 hD'.1 hD'.2.1
theorem Lp {w : Wld} {p : Player} (a b e n : Int) (hp : bH w p) (hD : bG ⟨8,a,b,e,n⟩ = true) : Ev1 Tryz.prog 69 [.ptr 0 0] (cJ w p ⟨8,a,b,e,n⟩) (i64 (aZ w p ⟨8,a,b,e,n⟩).2) (d0 (aZ w p ⟨8,a,b,e,n⟩)):=by
 have hD' : (bm 0 127 a && (bm 0 127 b && (bm 0 7 e && bm 1 1000 n))) = true:=hD
 simp only [bm,Bool.and_eq_true,decide_eq_true_eq] at hD'
 exact y8 w p ⟨8,a,b,e,n⟩ hp.rw hp.sound.1 hp.sound.2 hD'.1 hD'.2.1
theorem Lq {w : Wld} {p : Player} (a b e n : Int) (hp : bH w p) (hD : bG ⟨9,a,b,e,n⟩ = true) : Ev1 Tryz.prog 70 [.ptr 0 0] (cJ w p ⟨9,a,b,e,n⟩) (i64 (aZ w p ⟨9,a,b,e,n⟩).2) (d0 (aZ w p ⟨9,a,b,e,n⟩)):=by
 exact Jl w p ⟨9,a,b,e,n⟩ hp.rw hp.sound.1
theorem Kz {w : Wld} {p : Player} (a b e n : Int) (hp : bH w p) (hD : bG ⟨10,a,b,e,n⟩ = true) : Ev1 Tryz.prog 71 [.ptr 0 0] (cJ w p ⟨10,a,b,e,n⟩) (i64 (aZ w p ⟨10,a,b,e,n⟩).2) (d0 (aZ w p ⟨10,a,b,e,n⟩)):=by
 exact Kx w p ⟨10,a,b,e,n⟩ hp.rw hp.sound.1
theorem KA {w : Wld} {p : Player} (a b e n : Int) (hp : bH w p) (hD : bG ⟨11,a,b,e,n⟩ = true) : Ev1 Tryz.prog 72 [.ptr 0 0] (cJ w p ⟨11,a,b,e,n⟩) (i64 (aZ w p ⟨11,a,b,e,n⟩).2) (d0 (aZ w p ⟨11,a,b,e,n⟩)):=by
 exact Fj w p ⟨11,a,b,e,n⟩ hp.rw hp.sound.1 hp.sound.2 rfl
theorem KB {w : Wld} {p : Player} (a b e n : Int) (hp : bH w p) (hD : bG ⟨12,a,b,e,n⟩ = true) : Ev1 Tryz.prog 72 [.ptr 0 0] (cJ w p ⟨12,a,b,e,n⟩) (i64 (aZ w p ⟨12,a,b,e,n⟩).2) (d0 (aZ w p ⟨12,a,b,e,n⟩)):=by
 exact Fk w p ⟨12,a,b,e,n⟩ hp.rw hp.sound.1 hp.sound.2 rfl
theorem KC {w : Wld} {p : Player} (a b e n : Int) (hp : bH w p) (hD : bG ⟨13,a,b,e,n⟩ = true) : Ev1 Tryz.prog 72 [.ptr 0 0] (cJ w p ⟨13,a,b,e,n⟩) (i64 (aZ w p ⟨13,a,b,e,n⟩).2) (d0 (aZ w p ⟨13,a,b,e,n⟩)):=by
 exact Dm w p ⟨13,a,b,e,n⟩ hp.rw hp.sound.1 hp.sound.2 rfl
open Go Go.RowKit Eng
theorem Fr (w : Wld) (id d a b e n : Int) (hw : OkW w) (hR : aO w = true) (hd : 2 ≤ d ∧ d < 14) (hD : bG ⟨d,a,b,e,n⟩ = true) (hp : (ag w id).2 = true) (R : Wld × Int) (hRR : aZ w (ag w id).1 ⟨d,a,b,e,n⟩ = R) : Api Tryz.prog 30 [az w,i64 id,co ⟨d,a,b,e,n⟩] (.tup [az (if ¬ R.2 = 0 then (w,R.2) else (R.1,0)).1,i64 (if ¬ R.2 = 0 then (w,R.2) else (R.1,0)).2]):=by
 have hsn:=iM w hw
 have hrt:=dA w hw
 have hcr:=jn ⟨d,a,b,e,n⟩ (by dsimp only;omega) (by dsimp only;omega)
 have hpl:=fL w id hw
 have hh:=(ri (aK.1 hR) hp).1
 rcases q9 (by omega) hd.2 with rfl|rfl|rfl|rfl|rfl|rfl|rfl|rfl|rfl|rfl|rfl|rfl|rfl|rfl
 ·omega
 ·omega
 all_goals
  first
   | (have hact:=Lj a b e n hh hD;rw [hRR] at hact)
   | (have hact:=Lk a b e n hh hD;rw [hRR] at hact)
   | (have hact:=Ll a b e n hh hD;rw [hRR] at hact)
   | (have hact:=Lm a b e n hh hD;rw [hRR] at hact)
   | (have hact:=Ln a b e n hh hD;rw [hRR] at hact)
   | (have hact:=Lo a b e n hh hD;rw [hRR] at hact)
   | (have hact:=Lp a b e n hh hD;rw [hRR] at hact)
   | (have hact:=Lq a b e n hh hD;rw [hRR] at hact)
   | (have hact:=Kz a b e n hh hD;rw [hRR] at hact)
   | (have hact:=KA a b e n hh hD;rw [hRR] at hact)
   | (have hact:=KB a b e n hh hD;rw [hRR] at hact)
   | (have hact:=KC a b e n hh hD;rw [hRR] at hact)
  rw [hR] at hrt
  rw [hD] at hcr
  clear hRR hh
  generalize (am w jo).2 = E at *
  generalize ag w id = P at *
  obtain ⟨P1,P2⟩:=P
  dsimp only at hp hpl hact
  subst hp
  by_cases hz : R.2 = 0
  ·rw [if_neg (not_not_intro hz)]
   rw [ef hz,hz] at hact
   refine aF Tryz.func30 113 ?_
   ((try with_reducible refine ab fun N hN hE hT=>?_);(conv=>whnf))
   repeat' (first|exact trivial|((first|((first|apply hT|apply hE|apply hN);clear hN hE hT)|refine kL ?_|(refine ⟨fun hb=>?_,fun hb=>?_⟩<;>(try simp only [nrm] at hb)<;>try exact kZ hb)|refine kE hact [(0,140)] rfl ?_|refine kF hact [(0,140)] rfl ?_|refine kV ?_)<;>((try with_reducible refine ab fun N hN hE hT=>?_);(conv=>whnf)))|refine kY ?_ ?_)
   all_goals first|rfl|omega|trace_state
  ·rw [if_pos hz]
   rw [dE hz] at hact
   refine aF Tryz.func30 113 ?_
   ((try with_reducible refine ab fun N hN hE hT=>?_);(conv=>whnf))
   repeat' (first|exact trivial|((first|((first|apply hT|apply hE|apply hN);clear hN hE hT)|refine kL ?_|(refine ⟨fun hb=>?_,fun hb=>?_⟩<;>(try simp only [nrm] at hb)<;>try exact kZ hb)|refine kE hact [(0,140)] rfl ?_|refine kF hact [(0,140)] rfl ?_|refine kV ?_)<;>((try with_reducible refine ab fun N hN hE hT=>?_);(conv=>whnf)))|refine kY ?_ ?_)
   all_goals first|rfl|omega|trace_state
open Go Go.RowKit Eng
theorem Hz {w : Wld} {id : Int} {c : Cmd} (hR : aO w = true) (hD : bG c = true) (h1 : ¬ c.dol = 1) (hp : (ag w id).2 = true) :
  aG w id c = if ¬ (aZ w (ag w id).1 c).2 = 0 then (w,(aZ w (ag w id).1 c).2) else ((aZ w (ag w id).1 c).1,0):=by
 unfold aG
 rw [if_neg (by rw [hR];simp),if_neg (by rw [hD];simp),if_neg (by rw [hp,decide_eq_false h1];simp),if_neg h1]
theorem ga (w : Wld) (id : Int) (c : Cmd) (hw : OkW w) (hi : id ≤ 9223372036854775807) (hd : 0 ≤ c.dol ∧ c.dol ≤ 255) : Api Tryz.prog 30 [az w,i64 id,co c] (.tup [az (aG w id c).1,i64 (aG w id c).2]):=by
 cases hR : aO w with
 | false =>
  have e : aG w id c = (w,113):=by unfold aG;rw [if_pos hR]
  rw [e];exact AF w id c hw hR
 | true =>
  cases hD : bG c with
  | false =>
   have e : aG w id c = (w,109):=by unfold aG;rw [if_neg (by rw [hR];simp),if_pos hD]
   rw [e];exact Fq w id c hw hR hd.1 hd.2 hD
  | true =>
   by_cases hp : (ag w id).2 = decide (c.dol = 1)
   ·have e : aG w id c = (w,110):=by unfold aG;rw [if_neg (by rw [hR];simp),if_neg (by rw [hD];simp),if_pos hp]
    rw [e];exact zf w id c hw hR hd.1 hd.2 hD hp
   ·by_cases h1 : c.dol = 1
    ·have he0 : aG w id c = am w (nj w id):=by unfold aG;rw [if_neg (by rw [hR];simp),if_neg (by rw [hD];simp),if_neg hp,if_pos h1];rfl
     rw [he0]
     clear he0
     rw [decide_eq_true h1] at hp
     obtain ⟨d,a,b,e,n⟩:=c
     dsimp only at h1
     subst h1
     exact Dq w id a b e n hw hR hi hD (by simpa using hp)
    ·rw [decide_eq_false h1] at hp
     have hp' : (ag w id).2 = true:=by simpa using hp
     rw [Hz hR hD h1 hp']
     have hlt : c.dol < 14:=by
      rcases Int.lt_or_le c.dol 14 with h|h
      ·exact h
      ·rw [pR h] at hD;cases hD
     obtain ⟨d,a,b,e,n⟩:=c
     dsimp only at h1 hd hlt
     rcases q9 hd.1 hlt with rfl|rfl|rfl|rfl|rfl|rfl|rfl|rfl|rfl|rfl|rfl|rfl|rfl|rfl
     ·exact absurd hD (by rw [show bG ⟨0,a,b,e,n⟩ = false from rfl];simp)
     ·exact absurd rfl h1
     all_goals exact Fr w id _ a b e n hw hR (by omega) hD hp' _ rfl
end Go.Proofs.YtkojlembanldcaaGreat
