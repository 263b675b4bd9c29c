/- snap.Take, with new cells. -/
import Derived.Test.YtaecchphjploaaaGreatGp
import Derived.Test.YtaecchphjploaaaGreatGr
import Derived.Test.YtaecchphjploaaaGreatGs
set_option linter.unusedSimpArgs false
set_option linter.unusedVariables false
set_option maxRecDepth 100000
set_option maxHeartbeats 16000000
namespace Go.Proofs.YtaecchphjploaaaGreat
open Go Go.RowKit Eng
def cfgK : Cfg2:={ cfg with ty:=fun e=>match e with
   | 31=>some .chunkC
   | e=>cfg.ty e }
theorem cfgK_ok : Cfg2Ok Tryz.prog cfgK where
 mixed:=cfg_ok.mixed
 zr:=by
   intro e t h
   simp only [cfgK] at h
   split at h
   · cases h;kernel_rfl
   · exact cfg_ok.zr _ _ h
 sz:=by
   intro e t h
   simp only [cfgK] at h
   split at h
   · cases h;exact ⟨by kernel_rfl,by kernel_rfl⟩
   · exact cfg_ok.sz _ _ h
 pk:=cfg_ok.pk
 eq:=cfg_ok.eq
 call:=cfg_ok.call
 over:=cfg_ok.over
abbrev viewSV (v : Viw) : AV:=.agg [i64 v.tick,i64 v.me.id,i64 v.me.x,i64 v.me.y,.vec .slot v.me.bag,i64 v.me.wth,.vec .slot v.me.offer,bol v.me.agrees,.vec .chunkC v.chunks,.vec .seen v.others]
theorem takeF_api (v : Viw) (b : List (El .u8)) (hv : OkV v) (h8 : okU8 b) (hl : b.length ≤ 1000000000000) (hB : baseB v = true) (R : Viw × Int) (hR : takeY v b = R) : Api Tryz.prog 38 [viewV v,.vec .u8 b] (.tup [viewSV R.1,i64 R.2]):=by
 have hb1:=vbase_api v hv
 rw [hB] at hb1
 obtain ⟨w1,w2,w3,w4⟩:=take_ways (b:=b) hB
 rw [hR] at w1 w2 w3 w4
 clear hR
 have hk:=tkOk h8 hB
 have k1:=hk.p1;have k2:=hk.p2;have k3:=hk.p3;have k4:=hk.p4;have k5:=hk.p5;have k6:=hk.p6;have k7:=hk.p7;have k8:=hk.p8;have k9:=hk.p9;have k10:=hk.p10;have k11:=hk.p11
 have kw:=hk.w;have knc:=hk.nc;have kno:=hk.no
 have hN:=hk.ok
 clear hk
 have hmk:=makeF_api v (takeN v b) hv hN
 have heq:=eqBytes_api (makeE v (takeN v b)).1 b
 have hEl : (makeE v (takeN v b)).1 = (if makeB v (takeN v b) then makeY v (takeN v b) else []):=rfl
 have hEe : (makeE v (takeN v b)).2 = (if makeB v (takeN v b) then 0 else 113):=rfl
 have hTN : takeN v b = ⟨(tkK v b).t.1,⟨(tkK v b).id.1,(tkK v b).x.1,(tkK v b).y.1,(tkK v b).bag.1,(tkK v b).w.1 - 1,(tkK v b).off.1,decide ((tkK v b).ag.1 = 1)⟩,(tkK v b).cs.1,(tkK v b).os.1⟩:=rfl
 have g1 : Ev1 Tryz.prog 100 _ [(0,.box (rdC b ⟨0,false⟩))] (i64 (tkK v b).t.1) [(0,.box (rdC b (tkK v b).t.2))]:=snum_ev b ⟨0,false⟩ B40 h8 hl (Nat.zero_le _) (by decide)
 have g2 : Ev1 Tryz.prog 100 _ [(0,.box (rdC b (tkK v b).t.2))] (i64 (tkK v b).id.1) [(0,.box (rdC b (tkK v b).id.2))]:=snum_ev b (tkK v b).t.2 B40 h8 hl k1 (by decide)
 have g3 : Ev1 Tryz.prog 100 _ [(0,.box (rdC b (tkK v b).id.2))] (i64 (tkK v b).x.1) [(0,.box (rdC b (tkK v b).x.2))]:=snum_ev b (tkK v b).id.2 B40 h8 hl k2 (by decide)
 have g4 : Ev1 Tryz.prog 100 _ [(0,.box (rdC b (tkK v b).x.2))] (i64 (tkK v b).y.1) [(0,.box (rdC b (tkK v b).y.2))]:=snum_ev b (tkK v b).x.2 B40 h8 hl k3 (by decide)
 have g5 : Ev1 Tryz.prog 101 _ [(0,.box (rdC b (tkK v b).y.2))] (.vec .slot (tkK v b).bag.1) [(0,.box (rdC b (tkK v b).bag.2))]:=rslots_ev b (tkK v b).y.2 h8 hl k4
 have g6 : Ev1 Tryz.prog 100 _ [(0,.box (rdC b (tkK v b).bag.2))] (i64 (tkK v b).w.1) [(0,.box (rdC b (tkK v b).w.2))]:=snum_ev b (tkK v b).bag.2 B40 h8 hl k5 (by decide)
 have g7 : Ev1 Tryz.prog 100 _ [(0,.box (rdC b (tkK v b).w.2))] (i64 (tkK v b).ag.1) [(0,.box (rdC b (tkK v b).ag.2))]:=snum_ev b (tkK v b).w.2 1 h8 hl k6 (by decide)
 have eo : (tkK v b).off = if 0 ≤ (tkK v b).w.1 - 1 then allR (slotM b B40) 8 (tkK v b).ag.2 else ([],(tkK v b).ag.2):=rfl
 have g8:=rslots_ev b (tkK v b).ag.2 h8 hl k7
 have g9 : Ev1 Tryz.prog 100 _ [(0,.box (rdC b (tkK v b).off.2))] (i64 (tkK v b).nc.1) [(0,.box (rdC b (tkK v b).nc.2))]:=snum_ev b (tkK v b).off.2 49 h8 hl k8 (by decide)
 have g10 : Ev1 Tryz.prog 100 _ [(0,.box (rdC b (tkK v b).cs.2))] (i64 (tkK v b).no.1) [(0,.box (rdC b (tkK v b).no.2))]:=snum_ev b (tkK v b).cs.2 32 h8 hl k10 (by decide)
 have ec : (tkK v b).cs = manyR (chunkRS b v) (tkK v b).nc.1.toNat (tkK v b).nc.2:=rfl
 have es : (tkK v b).os = manyR (seenR b) (tkK v b).no.1.toNat (tkK v b).no.2:=rfl
 rw [hTN] at hmk hN w2 w3 w4 heq hEl hEe
 clear hTN
 generalize tkK v b = K at *
 obtain ⟨⟨t,tp,tb⟩,⟨id,ip,ib⟩,⟨x,xp,xb⟩,⟨y,yp,yb⟩,⟨bag,bp,bb⟩,⟨w,wp,wb⟩,⟨ag,ap,ab⟩,⟨off,op,ob⟩,⟨nc,np,nb⟩,⟨cs,cp,cb⟩,⟨no,mp,mb⟩,⟨os,sp,sb⟩⟩:=K
 dsimp only at *
 generalize hNw : (⟨t,⟨id,x,y,bag,w - 1,off,decide (ag = 1)⟩,cs,os⟩ : Viw) = NV at *
 have hNo : os.length = NV.others.length:=by rw [← hNw]
 have hmk2 : Api Tryz.prog 37 [viewV v,.agg [i64 t,i64 id,i64 x,i64 y,.vec .slot bag,i64 (w - 1),.vec .slot off,bol (decide (ag = 1)),.vec .chunk cs,.vec .seen os]] (.tup [.fec false .u8 (makeE v NV).1,i64 (makeE v NV).2]):=by
   rw [← hNw] at hmk ⊢;exact hmk
 clear hmk
 generalize makeE v NV = E at *
 obtain ⟨EB,Ee⟩:=E
 dsimp only at *
 have W1 : sb = true → R = (emptyV,120):=fun h=>w1 (.inl h)
 have W2 : ¬ (sp : Int) = b.length → R = (emptyV,120):=fun h=>w1 (.inr (by omega))
 have W3 : ¬ Ee = 0 → R = (emptyV,120):=fun h=>w2 (by
   cases hm : makeB v NV with
   | false=>rfl
   | true=>rw [hm] at hEe;exact absurd hEe h)
 have W4 : eqv EB b = false → R = (emptyV,120):=fun h=>by
   cases hm : makeB v NV with
   | false=>exact w2 hm
   | true =>
     rw [hm] at hEl
     rw [show EB = makeY v NV from hEl] at h
     exact w3 (eqv_false.1 h)
 have W5 : sb = false → (sp : Int) = b.length → Ee = 0 → eqv EB b = true → R = (⟨t,⟨id,x,y,bag,w - 1,off,decide (ag = 1)⟩,cs,os⟩,0):=fun h1 h2 h3 h4=>by
   rw [hNw]
   cases hm : makeB v NV with
   | false=>rw [hm] at hEe;rw [show Ee = 113 from hEe] at h3;cases h3
   | true =>
     rw [hm] at hEl
     rw [show EB = makeY v NV from hEl] at h4
     exact w4 h1 (by omega) hm (eqv_iff.1 h4)
 have hEB : EB.length ≤ 9000000000000000000:=by
   cases hm : makeB v NV with
   | false=>rw [hm] at hEl;rw [show EB = [] from hEl];simp
   | true =>
     rw [hm] at hEl
     rw [show EB = makeY v NV from hEl]
     unfold makeB at hm
     rw [Bool.and_eq_true] at hm
     exact Nat.le_trans (makeY_le hm.1) (by decide)
 have heq:=heq hEB
 clear w1 w2 w3 w4 hEl hEe hEB hN hNo hNw
 have hoff : (0 ≤ w - 1 ∧ Ev1 Tryz.prog 101 [.ptr 0 0] [(0,.box [.vec .u8 b,i64 ap,bol ab])] (.vec .slot off) [(0,.box [.vec .u8 b,i64 op,bol ob])]) ∨ (w - 1 < 0 ∧ off = [] ∧ ap = op ∧ ab = ob):=by
   by_cases hw : 0 ≤ w - 1
   · left
     rw [if_pos hw] at eo
     rw [← eo] at g8
     exact ⟨hw,g8⟩
   · right
     rw [if_neg hw] at eo
     exact ⟨by omega,congrArg Prod.fst eo,(congrArg (fun z=>z.2.pos) eo).symm,(congrArg (fun z=>z.2.bad) eo).symm⟩
 clear g8 eo
 change Ev1 _ _ _ [(0,.box [.vec .u8 b,i64 (0 : Nat),bol false])] _ [(0,.box [.vec .u8 b,i64 tp,bol tb])] at g1
 change Ev1 _ _ _ [(0,.box [.vec .u8 b,i64 tp,bol tb])] _ [(0,.box [.vec .u8 b,i64 ip,bol ib])] at g2
 change Ev1 _ _ _ [(0,.box [.vec .u8 b,i64 ip,bol ib])] _ [(0,.box [.vec .u8 b,i64 xp,bol xb])] at g3
 change Ev1 _ _ _ [(0,.box [.vec .u8 b,i64 xp,bol xb])] _ [(0,.box [.vec .u8 b,i64 yp,bol yb])] at g4
 change Ev1 _ _ _ [(0,.box [.vec .u8 b,i64 yp,bol yb])] _ [(0,.box [.vec .u8 b,i64 bp,bol bb])] at g5
 change Ev1 _ _ _ [(0,.box [.vec .u8 b,i64 bp,bol bb])] _ [(0,.box [.vec .u8 b,i64 wp,bol wb])] at g6
 change Ev1 _ _ _ [(0,.box [.vec .u8 b,i64 wp,bol wb])] _ [(0,.box [.vec .u8 b,i64 ap,bol ab])] at g7
 change Ev1 _ _ _ [(0,.box [.vec .u8 b,i64 op,bol ob])] _ [(0,.box [.vec .u8 b,i64 np,bol nb])] at g9
 change Ev1 _ _ _ [(0,.box [.vec .u8 b,i64 cp,bol cb])] _ [(0,.box [.vec .u8 b,i64 mp,bol mb])] at g10
 refine Api.of_fin cfgK_ok Tryz.func38 rfl (nt:=137) rfl rfl ?_
 ((repeat (first|(with_reducible refine evCut fun N hN hE hT=>?_)|(with_reducible refine evBlk fun N hN hE hT=>?_)));(try with_reducible refine evCnd fun X Y hX hY=>?_);(conv=>whnf))
 repeat' (first|exact trivial|((first|((first|refine hT _ _ ?_|refine hE _ _ _ ?_|refine hN _ _ ?_);clear hN hE hT)|((first|refine hX ?_|refine hY ?_);clear hX hY)|refine kL ?_|(refine ⟨fun hb=>?_,fun hb=>?_⟩<;>(try simp only [nrm] at hb)<;>(try (first|(exfalso;omega)|contradiction|exact kB hb)))|refine kA hb1 ?_|refine kD hb1 ?_|refine kW cfgK_ok ?_|refine kC ?_|refine bdA ?_|refine bd2 ?_|refine bdR ?_|refine bdL ?_)<;>((repeat (first|(with_reducible refine evCut fun N hN hE hT=>?_)|(with_reducible refine evBlk fun N hN hE hT=>?_)));(try with_reducible refine evCnd fun X Y hX hY=>?_);(conv=>whnf)))|(refine And.intro ?_ ?_;rotate_left;(conv=>whnf);rotate_right))
 refine Runs.loopS cfgK_ok (σ:=Nat × (Int × Int × Int × Int) × Nat × Bool) [1,2,4,6,7,29,30] (fun (k,(c0,c1,c2,c3),p,u)=>[.vec .u8 b,.ptr 4 0,.ptr 8 0,.ptr 42 0,.ptr 14 0,.agg [.ptr 14 0,.ptr 14 1,.ptr 14 2,.ptr 14 3],i64 k]) (fun (k,(c0,c1,c2,c3),p,u)=>[(4,.box (viewC v)),(8,.box (viewC emptyV)),(42,.box [.vec .u8 b,i64 p,bol u]),(14,.box [i64 c0,i64 c1,i64 c2,i64 c3,.lit (.slice none 0 0),i64 0,.lit (.slice none 0 0),.ff,.lit (.slice none 0 0),.lit (.slice none 0 0)])])
   (fun s=>s = (0,(0,0,0,0),0,false) ∨ s = (1,(t,0,0,0),tp,tb) ∨ s = (2,(t,id,0,0),ip,ib) ∨ s = (3,(t,id,x,0),xp,xb) ∨ s = (4,(t,id,x,y),yp,yb)) (fun (k,_,_,_)=>4 - k) (0,(0,0,0,0),0,false) (.inl rfl) ?_ ?_
 · conv=>whnf
   repeat' (first|exact trivial|((first|((first|refine hT _ _ ?_|refine hE _ _ _ ?_|refine hN _ _ ?_);clear hN hE hT)|((first|refine hX ?_|refine hY ?_);clear hX hY)|refine kL ?_|(refine ⟨fun hb=>?_,fun hb=>?_⟩<;>(try simp only [nrm] at hb)<;>(try (first|(exfalso;omega)|contradiction|exact kB hb)))|refine kW cfgK_ok ?_|refine kC ?_|refine bdA ?_|refine bd2 ?_|refine bdR ?_|refine bdL ?_)<;>((repeat (first|(with_reducible refine evCut fun N hN hE hT=>?_)|(with_reducible refine evBlk fun N hN hE hT=>?_)));(try with_reducible refine evCnd fun X Y hX hY=>?_);(conv=>whnf)))|(refine And.intro ?_ ?_;rotate_left;(conv=>whnf);rotate_right))
   all_goals trace_state
 · rintro s (h|h|h|h|h)
   · rw [h]
     conv=>whnf
     repeat' (first|exact trivial|((first|((first|refine hT _ _ ?_|refine hE _ _ _ ?_|refine hN _ _ ?_);clear hN hE hT)|((first|refine hX ?_|refine hY ?_);clear hX hY)|refine kL ?_|(refine ⟨fun hb=>?_,fun hb=>?_⟩<;>(try simp only [nrm] at hb)<;>(try (first|(exfalso;omega)|contradiction|exact kB hb)))|refine kE g1 [(0,42)] rfl ?_ (hrd:=⟨rfl,trivial⟩)|refine kF g1 [(0,42)] rfl ?_ (hrd:=⟨rfl,trivial⟩)|refine kW cfgK_ok ?_|refine kC ?_|refine bdA ?_|refine bd2 ?_|refine bdR ?_|refine bdL ?_)<;>((repeat (first|(with_reducible refine evCut fun N hN hE hT=>?_)|(with_reducible refine evBlk fun N hN hE hT=>?_)));(try with_reducible refine evCnd fun X Y hX hY=>?_);(conv=>whnf)))|(refine And.intro ?_ ?_;rotate_left;(conv=>whnf);rotate_right))
     refine .to (1,(t,0,0,0),tp,tb) (.inr (.inl rfl)) (by dsimp only;omega) ?_
     conv=>whnf
     repeat' (first|exact trivial|((first|((first|refine hT _ _ ?_|refine hE _ _ _ ?_|refine hN _ _ ?_);clear hN hE hT)|((first|refine hX ?_|refine hY ?_);clear hX hY)|refine kL ?_|(refine ⟨fun hb=>?_,fun hb=>?_⟩<;>(try simp only [nrm] at hb)<;>(try (first|(exfalso;omega)|contradiction|exact kB hb)))|refine kW cfgK_ok ?_|refine kC ?_|refine bdA ?_|refine bd2 ?_|refine bdR ?_|refine bdL ?_)<;>((repeat (first|(with_reducible refine evCut fun N hN hE hT=>?_)|(with_reducible refine evBlk fun N hN hE hT=>?_)));(try with_reducible refine evCnd fun X Y hX hY=>?_);(conv=>whnf)))|(refine And.intro ?_ ?_;rotate_left;(conv=>whnf);rotate_right))
     all_goals trace_state
   · rw [h]
     conv=>whnf
     repeat' (first|exact trivial|((first|((first|refine hT _ _ ?_|refine hE _ _ _ ?_|refine hN _ _ ?_);clear hN hE hT)|((first|refine hX ?_|refine hY ?_);clear hX hY)|refine kL ?_|(refine ⟨fun hb=>?_,fun hb=>?_⟩<;>(try simp only [nrm] at hb)<;>(try (first|(exfalso;omega)|contradiction|exact kB hb)))|refine kE g2 [(0,42)] rfl ?_ (hrd:=⟨rfl,trivial⟩)|refine kF g2 [(0,42)] rfl ?_ (hrd:=⟨rfl,trivial⟩)|refine kW cfgK_ok ?_|refine kC ?_|refine bdA ?_|refine bd2 ?_|refine bdR ?_|refine bdL ?_)<;>((repeat (first|(with_reducible refine evCut fun N hN hE hT=>?_)|(with_reducible refine evBlk fun N hN hE hT=>?_)));(try with_reducible refine evCnd fun X Y hX hY=>?_);(conv=>whnf)))|(refine And.intro ?_ ?_;rotate_left;(conv=>whnf);rotate_right))
     refine .to (2,(t,id,0,0),ip,ib) (.inr (.inr (.inl rfl))) (by dsimp only;omega) ?_
     conv=>whnf
     repeat' (first|exact trivial|((first|((first|refine hT _ _ ?_|refine hE _ _ _ ?_|refine hN _ _ ?_);clear hN hE hT)|((first|refine hX ?_|refine hY ?_);clear hX hY)|refine kL ?_|(refine ⟨fun hb=>?_,fun hb=>?_⟩<;>(try simp only [nrm] at hb)<;>(try (first|(exfalso;omega)|contradiction|exact kB hb)))|refine kW cfgK_ok ?_|refine kC ?_|refine bdA ?_|refine bd2 ?_|refine bdR ?_|refine bdL ?_)<;>((repeat (first|(with_reducible refine evCut fun N hN hE hT=>?_)|(with_reducible refine evBlk fun N hN hE hT=>?_)));(try with_reducible refine evCnd fun X Y hX hY=>?_);(conv=>whnf)))|(refine And.intro ?_ ?_;rotate_left;(conv=>whnf);rotate_right))
     all_goals trace_state
   · rw [h]
     conv=>whnf
     repeat' (first|exact trivial|((first|((first|refine hT _ _ ?_|refine hE _ _ _ ?_|refine hN _ _ ?_);clear hN hE hT)|((first|refine hX ?_|refine hY ?_);clear hX hY)|refine kL ?_|(refine ⟨fun hb=>?_,fun hb=>?_⟩<;>(try simp only [nrm] at hb)<;>(try (first|(exfalso;omega)|contradiction|exact kB hb)))|refine kE g3 [(0,42)] rfl ?_ (hrd:=⟨rfl,trivial⟩)|refine kF g3 [(0,42)] rfl ?_ (hrd:=⟨rfl,trivial⟩)|refine kW cfgK_ok ?_|refine kC ?_|refine bdA ?_|refine bd2 ?_|refine bdR ?_|refine bdL ?_)<;>((repeat (first|(with_reducible refine evCut fun N hN hE hT=>?_)|(with_reducible refine evBlk fun N hN hE hT=>?_)));(try with_reducible refine evCnd fun X Y hX hY=>?_);(conv=>whnf)))|(refine And.intro ?_ ?_;rotate_left;(conv=>whnf);rotate_right))
     refine .to (3,(t,id,x,0),xp,xb) (.inr (.inr (.inr (.inl rfl)))) (by dsimp only;omega) ?_
     conv=>whnf
     repeat' (first|exact trivial|((first|((first|refine hT _ _ ?_|refine hE _ _ _ ?_|refine hN _ _ ?_);clear hN hE hT)|((first|refine hX ?_|refine hY ?_);clear hX hY)|refine kL ?_|(refine ⟨fun hb=>?_,fun hb=>?_⟩<;>(try simp only [nrm] at hb)<;>(try (first|(exfalso;omega)|contradiction|exact kB hb)))|refine kW cfgK_ok ?_|refine kC ?_|refine bdA ?_|refine bd2 ?_|refine bdR ?_|refine bdL ?_)<;>((repeat (first|(with_reducible refine evCut fun N hN hE hT=>?_)|(with_reducible refine evBlk fun N hN hE hT=>?_)));(try with_reducible refine evCnd fun X Y hX hY=>?_);(conv=>whnf)))|(refine And.intro ?_ ?_;rotate_left;(conv=>whnf);rotate_right))
     all_goals trace_state
   · rw [h]
     conv=>whnf
     repeat' (first|exact trivial|((first|((first|refine hT _ _ ?_|refine hE _ _ _ ?_|refine hN _ _ ?_);clear hN hE hT)|((first|refine hX ?_|refine hY ?_);clear hX hY)|refine kL ?_|(refine ⟨fun hb=>?_,fun hb=>?_⟩<;>(try simp only [nrm] at hb)<;>(try (first|(exfalso;omega)|contradiction|exact kB hb)))|refine kE g4 [(0,42)] rfl ?_ (hrd:=⟨rfl,trivial⟩)|refine kF g4 [(0,42)] rfl ?_ (hrd:=⟨rfl,trivial⟩)|refine kW cfgK_ok ?_|refine kC ?_|refine bdA ?_|refine bd2 ?_|refine bdR ?_|refine bdL ?_)<;>((repeat (first|(with_reducible refine evCut fun N hN hE hT=>?_)|(with_reducible refine evBlk fun N hN hE hT=>?_)));(try with_reducible refine evCnd fun X Y hX hY=>?_);(conv=>whnf)))|(refine And.intro ?_ ?_;rotate_left;(conv=>whnf);rotate_right))
     refine .to (4,(t,id,x,y),yp,yb) (.inr (.inr (.inr (.inr rfl)))) (by dsimp only;omega) ?_
     conv=>whnf
     repeat' (first|exact trivial|((first|((first|refine hT _ _ ?_|refine hE _ _ _ ?_|refine hN _ _ ?_);clear hN hE hT)|((first|refine hX ?_|refine hY ?_);clear hX hY)|refine kL ?_|(refine ⟨fun hb=>?_,fun hb=>?_⟩<;>(try simp only [nrm] at hb)<;>(try (first|(exfalso;omega)|contradiction|exact kB hb)))|refine kW cfgK_ok ?_|refine kC ?_|refine bdA ?_|refine bd2 ?_|refine bdR ?_|refine bdL ?_)<;>((repeat (first|(with_reducible refine evCut fun N hN hE hT=>?_)|(with_reducible refine evBlk fun N hN hE hT=>?_)));(try with_reducible refine evCnd fun X Y hX hY=>?_);(conv=>whnf)))|(refine And.intro ?_ ?_;rotate_left;(conv=>whnf);rotate_right))
     all_goals trace_state
   · rw [h]
     clear h g1 g2 g3 g4
     rcases hoff with ⟨hw,g8⟩|⟨hw,o1,o2,o3⟩
     · conv=>whnf
       repeat' (first|exact trivial|((first|((first|refine hT _ _ ?_|refine hE _ _ _ ?_|refine hN _ _ ?_);clear hN hE hT)|((first|refine hX ?_|refine hY ?_);clear hX hY)|refine kL ?_|(refine ⟨fun hb=>?_,fun hb=>?_⟩<;>(try simp only [nrm] at hb)<;>(try (first|(exfalso;omega)|contradiction|exact kB hb)))|refine kE g5 [(0,42)] rfl ?_ (hrd:=⟨rfl,trivial⟩)|refine kF g5 [(0,42)] rfl ?_ (hrd:=⟨rfl,trivial⟩)|refine kE g6 [(0,42)] rfl ?_ (hrd:=⟨rfl,trivial⟩)|refine kF g6 [(0,42)] rfl ?_ (hrd:=⟨rfl,trivial⟩)|refine kE g7 [(0,42)] rfl ?_ (hrd:=⟨rfl,trivial⟩)|refine kF g7 [(0,42)] rfl ?_ (hrd:=⟨rfl,trivial⟩)|refine kE g8 [(0,42)] rfl ?_ (hrd:=⟨rfl,trivial⟩)|refine kF g8 [(0,42)] rfl ?_ (hrd:=⟨rfl,trivial⟩)|refine kE g9 [(0,42)] rfl ?_ (hrd:=⟨rfl,trivial⟩)|refine kF g9 [(0,42)] rfl ?_ (hrd:=⟨rfl,trivial⟩)|refine kW cfgK_ok ?_|refine kC ?_|refine bdA ?_|refine bd2 ?_|refine bdR ?_|refine bdL ?_)<;>((repeat (first|(with_reducible refine evCut fun N hN hE hT=>?_)|(with_reducible refine evBlk fun N hN hE hT=>?_)));(try with_reducible refine evCnd fun X Y hX hY=>?_);(conv=>whnf)))|(refine And.intro ?_ ?_;rotate_left;(conv=>whnf);rotate_right))
       clear g5 g6 g7 g8
       refine Runs.loopS cfgK_ok (σ:=List (El .chunk) × Nat × Nat × Bool) [1,2,4,6,7,10] (fun (l,r,p,u)=>[.vec .u8 b,.ptr 4 0,.ptr 8 0,.ptr 42 0,.ptr 14 0,i64 r]) (fun (l,r,p,u)=>[(4,.box (viewC v)),(8,.box (viewC emptyV)),(42,.box [.vec .u8 b,i64 p,bol u]),(14,.box [i64 t,i64 id,i64 x,i64 y,.vec .slot bag,i64 (w - 1),.vec .slot off,bol (decide (ag = 1)),.own .chunkC 350001 0 l.length none,.lit (.slice none 0 0)]),(350001,.row .chunkC l)])
         (fun (l,r,p,u)=>p ≤ b.length ∧ l.length + r ≤ 49 ∧ l ++ (manyR (chunkRS b v) r ⟨p,u⟩).1 = cs ∧ (manyR (chunkRS b v) r ⟨p,u⟩).2 = ⟨cp,cb⟩) (fun (l,r,p,u)=>r) ([],nc.toNat,np,nb) ⟨k9,by show 0 + nc.toNat ≤ 49;omega,(congrArg Prod.fst ec).symm,(congrArg Prod.snd ec).symm⟩ ?_ ?_
       · conv=>whnf
         repeat' (first|exact trivial|((first|((first|refine hT _ _ ?_|refine hE _ _ _ ?_|refine hN _ _ ?_);clear hN hE hT)|((first|refine hX ?_|refine hY ?_);clear hX hY)|refine kL ?_|(refine ⟨fun hb=>?_,fun hb=>?_⟩<;>(try simp only [nrm] at hb)<;>(try (first|(exfalso;omega)|contradiction|exact kB hb)))|refine kW cfgK_ok ?_|refine kC ?_|refine bdA ?_|refine bd2 ?_|refine bdR ?_|refine bdL ?_)<;>((repeat (first|(with_reducible refine evCut fun N hN hE hT=>?_)|(with_reducible refine evBlk fun N hN hE hT=>?_)));(try with_reducible refine evCnd fun X Y hX hY=>?_);(conv=>whnf)))|(refine And.intro ?_ ?_;rotate_left;(conv=>whnf);rotate_right))
         all_goals first|rfl|exact List.take_length|exact List.take_of_length_le (by rw [List.drop_zero];omega)|(dsimp only;exact congrArg (Value.int _) (by omega))|exact congrArg (Value.int _) (by omega)|exact row_grow (t:=.chunkC)|exact row_grow (t:=.seen)|exact o1.symm|trace_state
       · rintro ⟨l,r,p,u⟩ ⟨i1,i2,i3,i4⟩
         try dsimp only at i1 i2 i3 i4
         by_cases hlive : 0 < r ∧ u = false
         · obtain ⟨hr0,rfl⟩:=hlive
           obtain ⟨r,rfl⟩ : ∃ r' : Nat,r = r' + 1:=⟨r - 1,by omega⟩
           rw [many_next rfl] at i3 i4
           have q1:=rchunkF_ev b v ⟨p,false⟩ hv hB h8 hl i1
           have q2 : (chunkRS b v ⟨p,false⟩).2.pos ≤ b.length:=chunkRS_pos h8 i1
           generalize chunkRS b v ⟨p,false⟩ = C at *
           obtain ⟨c,zp,zb⟩:=C
           dsimp only at *
           change Ev1 _ _ _ [(0,.box [.vec .u8 b,i64 p,bol false])] _ [(0,.box [.vec .u8 b,i64 zp,bol zb])] at q1
           conv=>whnf
           repeat' (first|exact trivial|((first|((first|refine hT _ _ ?_|refine hE _ _ _ ?_|refine hN _ _ ?_);clear hN hE hT)|((first|refine hX ?_|refine hY ?_);clear hX hY)|refine kL ?_|(refine ⟨fun hb=>?_,fun hb=>?_⟩<;>(try simp only [nrm] at hb)<;>(try (first|(exfalso;omega)|contradiction|exact kB hb)))|refine kE q1 [(0,42)] rfl ?_ (hrd:=⟨rfl,trivial⟩)|refine kF q1 [(0,42)] rfl ?_ (hrd:=⟨rfl,trivial⟩)|refine kW cfgK_ok ?_|refine kC ?_|refine bdA ?_|refine bd2 ?_|refine bdR ?_|refine bdL ?_)<;>((repeat (first|(with_reducible refine evCut fun N hN hE hT=>?_)|(with_reducible refine evBlk fun N hN hE hT=>?_)));(try with_reducible refine evCnd fun X Y hX hY=>?_);(conv=>whnf)))|(refine And.intro ?_ ?_;rotate_left;(conv=>whnf);rotate_right))
           refine .to (l ++ [c],r,zp,zb) ⟨q2,by show (l ++ [_]).length + r ≤ 49;rw [List.length_append,List.length_singleton];omega,by rw [List.append_assoc];exact i3,i4⟩ (by first|omega|(dsimp only;omega)) ?_
           conv=>whnf
           repeat' (first|exact trivial|((first|((first|refine hT _ _ ?_|refine hE _ _ _ ?_|refine hN _ _ ?_);clear hN hE hT)|((first|refine hX ?_|refine hY ?_);clear hX hY)|refine kL ?_|(refine ⟨fun hb=>?_,fun hb=>?_⟩<;>(try simp only [nrm] at hb)<;>(try (first|(exfalso;omega)|contradiction|exact kB hb)))|refine kW cfgK_ok ?_|refine kC ?_|refine bdA ?_|refine bd2 ?_|refine bdR ?_|refine bdL ?_)<;>((repeat (first|(with_reducible refine evCut fun N hN hE hT=>?_)|(with_reducible refine evBlk fun N hN hE hT=>?_)));(try with_reducible refine evCnd fun X Y hX hY=>?_);(conv=>whnf)))|(refine And.intro ?_ ?_;rotate_left;(conv=>whnf);rotate_right))
           all_goals first|rfl|exact List.take_length|exact List.take_of_length_le (by rw [List.drop_zero];omega)|(dsimp only;exact congrArg (Value.int _) (by omega))|exact congrArg (Value.int _) (by omega)|exact row_grow (t:=.chunkC)|exact row_grow (t:=.seen)|exact o1.symm|trace_state
         · rw [many_dead hlive] at i3 i4
           obtain rfl : cs = l:=by rw [← i3];simp
           obtain ⟨d2,d3⟩:=Rd.mk.inj i4
           obtain rfl : cp = p:=d2.symm
           obtain rfl : cb = u:=d3.symm
           clear i3 i4 d2 d3 g9
           conv=>whnf
           repeat' (first|exact trivial|((first|((first|refine hT _ _ ?_|refine hE _ _ _ ?_|refine hN _ _ ?_);clear hN hE hT)|((first|refine hX ?_|refine hY ?_);clear hX hY)|refine kL ?_|(refine ⟨fun hb=>?_,fun hb=>?_⟩<;>(try simp only [nrm] at hb)<;>(try (first|(exfalso;omega)|contradiction|exact kB hb)))|refine kE g10 [(0,42)] rfl ?_ (hrd:=⟨rfl,trivial⟩)|refine kF g10 [(0,42)] rfl ?_ (hrd:=⟨rfl,trivial⟩)|refine kW cfgK_ok ?_|refine kC ?_|refine bdA ?_|refine bd2 ?_|refine bdR ?_|refine bdL ?_)<;>((repeat (first|(with_reducible refine evCut fun N hN hE hT=>?_)|(with_reducible refine evBlk fun N hN hE hT=>?_)));(try with_reducible refine evCnd fun X Y hX hY=>?_);(conv=>whnf)))|(refine And.intro ?_ ?_;rotate_left;(conv=>whnf);rotate_right))
           all_goals (try (exact absurd ⟨by omega,by simpa using hb⟩ hlive))
           all_goals
             refine Runs.loopS cfgK_ok (σ:=List (El .seen) × Nat × Nat × Bool) [1,2,4,6,7,11] (fun (l,r,p,u)=>[.vec .u8 b,.ptr 4 0,.ptr 8 0,.ptr 42 0,.ptr 14 0,i64 r]) (fun (l,r,p,u)=>[(4,.box (viewC v)),(8,.box (viewC emptyV)),(42,.box [.vec .u8 b,i64 p,bol u]),(14,.box [i64 t,i64 id,i64 x,i64 y,.vec .slot bag,i64 (w - 1),.vec .slot off,bol (decide (ag = 1)),.vec .chunkC cs,.own .seen 215 0 l.length none]),(215,.row .seen l)])
               (fun (l,r,p,u)=>p ≤ b.length ∧ l.length + r ≤ 32 ∧ l ++ (manyR (seenR b) r ⟨p,u⟩).1 = os ∧ (manyR (seenR b) r ⟨p,u⟩).2 = ⟨sp,sb⟩) (fun (l,r,p,u)=>r) ([],no.toNat,mp,mb) ⟨k11,by show 0 + no.toNat ≤ 32;omega,(congrArg Prod.fst es).symm,(congrArg Prod.snd es).symm⟩ ?_ ?_
             · conv=>whnf
               repeat' (first|exact trivial|((first|((first|refine hT _ _ ?_|refine hE _ _ _ ?_|refine hN _ _ ?_);clear hN hE hT)|((first|refine hX ?_|refine hY ?_);clear hX hY)|refine kL ?_|(refine ⟨fun hb=>?_,fun hb=>?_⟩<;>(try simp only [nrm] at hb)<;>(try (first|(exfalso;omega)|contradiction|exact kB hb)))|refine kW cfgK_ok ?_|refine kC ?_|refine bdA ?_|refine bd2 ?_|refine bdR ?_|refine bdL ?_)<;>((repeat (first|(with_reducible refine evCut fun N hN hE hT=>?_)|(with_reducible refine evBlk fun N hN hE hT=>?_)));(try with_reducible refine evCnd fun X Y hX hY=>?_);(conv=>whnf)))|(refine And.intro ?_ ?_;rotate_left;(conv=>whnf);rotate_right))
               all_goals first|rfl|exact List.take_length|exact List.take_of_length_le (by rw [List.drop_zero];omega)|(dsimp only;exact congrArg (Value.int _) (by omega))|exact congrArg (Value.int _) (by omega)|exact row_grow (t:=.chunkC)|exact row_grow (t:=.seen)|exact o1.symm|trace_state
             · rintro ⟨l,r2,p,u⟩ ⟨i1,i2,i3,i4⟩
               try dsimp only at i1 i2 i3 i4
               by_cases hlive2 : 0 < r2 ∧ u = false
               · obtain ⟨hr0,rfl⟩:=hlive2
                 obtain ⟨r2,rfl⟩ : ∃ r' : Nat,r2 = r' + 1:=⟨r2 - 1,by omega⟩
                 rw [many_next rfl] at i3 i4
                 have q1:=snum_ev b ⟨p,false⟩ B40 h8 hl i1 (by decide)
                 have q2 : (numI b B40 ⟨p,false⟩).2.pos ≤ b.length:=numI_pos h8 i1
                 have q3:=snum_ev b (numI b B40 ⟨p,false⟩).2 B40 h8 hl q2 (by decide)
                 have q4 : (numI b B40 (numI b B40 ⟨p,false⟩).2).2.pos ≤ b.length:=numI_pos h8 q2
                 have q5:=snum_ev b (numI b B40 (numI b B40 ⟨p,false⟩).2).2 B40 h8 hl q4 (by decide)
                 have q6 : (numI b B40 (numI b B40 (numI b B40 ⟨p,false⟩).2).2).2.pos ≤ b.length:=numI_pos h8 q4
                 have q7 : seenR b ⟨p,false⟩ = (⟨(numI b B40 ⟨p,false⟩).1,(numI b B40 (numI b B40 ⟨p,false⟩).2).1,(numI b B40 (numI b B40 (numI b B40 ⟨p,false⟩).2).2).1⟩,(numI b B40 (numI b B40 (numI b B40 ⟨p,false⟩).2).2).2):=rfl
                 rw [q7] at i3 i4
                 clear q7
                 generalize numI b B40 ⟨p,false⟩ = A1 at *
                 obtain ⟨a1,a2,a3⟩:=A1
                 dsimp only at *
                 generalize numI b B40 ⟨a2,a3⟩ = A2 at *
                 obtain ⟨e1,e2,e3⟩:=A2
                 dsimp only at *
                 generalize numI b B40 ⟨e2,e3⟩ = A3 at *
                 obtain ⟨f1,f2,f3⟩:=A3
                 dsimp only at *
                 change Ev1 _ _ _ [(0,.box [.vec .u8 b,i64 p,bol false])] _ [(0,.box [.vec .u8 b,i64 a2,bol a3])] at q1
                 change Ev1 _ _ _ [(0,.box [.vec .u8 b,i64 a2,bol a3])] _ [(0,.box [.vec .u8 b,i64 e2,bol e3])] at q3
                 change Ev1 _ _ _ [(0,.box [.vec .u8 b,i64 e2,bol e3])] _ [(0,.box [.vec .u8 b,i64 f2,bol f3])] at q5
                 conv=>whnf
                 repeat' (first|exact trivial|((first|((first|refine hT _ _ ?_|refine hE _ _ _ ?_|refine hN _ _ ?_);clear hN hE hT)|((first|refine hX ?_|refine hY ?_);clear hX hY)|refine kL ?_|(refine ⟨fun hb=>?_,fun hb=>?_⟩<;>(try simp only [nrm] at hb)<;>(try (first|(exfalso;omega)|contradiction|exact kB hb)))|refine kE q1 [(0,42)] rfl ?_ (hrd:=⟨rfl,trivial⟩)|refine kF q1 [(0,42)] rfl ?_ (hrd:=⟨rfl,trivial⟩)|refine kE q3 [(0,42)] rfl ?_ (hrd:=⟨rfl,trivial⟩)|refine kF q3 [(0,42)] rfl ?_ (hrd:=⟨rfl,trivial⟩)|refine kE q5 [(0,42)] rfl ?_ (hrd:=⟨rfl,trivial⟩)|refine kF q5 [(0,42)] rfl ?_ (hrd:=⟨rfl,trivial⟩)|refine kW cfgK_ok ?_|refine kC ?_|refine bdA ?_|refine bd2 ?_|refine bdR ?_|refine bdL ?_)<;>((repeat (first|(with_reducible refine evCut fun N hN hE hT=>?_)|(with_reducible refine evBlk fun N hN hE hT=>?_)));(try with_reducible refine evCnd fun X Y hX hY=>?_);(conv=>whnf)))|(refine And.intro ?_ ?_;rotate_left;(conv=>whnf);rotate_right))
                 refine .to (l ++ [⟨a1,e1,f1⟩],r2,f2,f3) ⟨q6,by show (l ++ [_]).length + r2 ≤ 32;rw [List.length_append,List.length_singleton];omega,by rw [List.append_assoc];exact i3,i4⟩ (by first|omega|(dsimp only;omega)) ?_
                 conv=>whnf
                 repeat' (first|exact trivial|((first|((first|refine hT _ _ ?_|refine hE _ _ _ ?_|refine hN _ _ ?_);clear hN hE hT)|((first|refine hX ?_|refine hY ?_);clear hX hY)|refine kL ?_|(refine ⟨fun hb=>?_,fun hb=>?_⟩<;>(try simp only [nrm] at hb)<;>(try (first|(exfalso;omega)|contradiction|exact kB hb)))|refine kW cfgK_ok ?_|refine kC ?_|refine bdA ?_|refine bd2 ?_|refine bdR ?_|refine bdL ?_)<;>((repeat (first|(with_reducible refine evCut fun N hN hE hT=>?_)|(with_reducible refine evBlk fun N hN hE hT=>?_)));(try with_reducible refine evCnd fun X Y hX hY=>?_);(conv=>whnf)))|(refine And.intro ?_ ?_;rotate_left;(conv=>whnf);rotate_right))
                 all_goals first|rfl|exact List.take_length|exact List.take_of_length_le (by rw [List.drop_zero];omega)|(dsimp only;exact congrArg (Value.int _) (by omega))|exact congrArg (Value.int _) (by omega)|exact row_grow (t:=.chunkC)|exact row_grow (t:=.seen)|exact o1.symm|trace_state
               · rw [many_dead hlive2] at i3 i4
                 obtain rfl : os = l:=by rw [← i3];simp
                 obtain ⟨d2,d3⟩:=Rd.mk.inj i4
                 obtain rfl : sp = p:=d2.symm
                 obtain rfl : sb = u:=d3.symm
                 clear i3 i4 d2 d3
                 conv=>whnf
                 repeat' (first|exact trivial|((first|((first|refine hT _ _ ?_|refine hE _ _ _ ?_|refine hN _ _ ?_);clear hN hE hT)|((first|refine hX ?_|refine hY ?_);clear hX hY)|refine kL ?_|(refine ⟨fun hb=>?_,fun hb=>?_⟩<;>(try simp only [nrm] at hb)<;>(try (first|(exfalso;omega)|contradiction|exact kB hb)))|(refine kN hmk2 ?_ rfl)|(refine kU heq ?_ rfl rfl rfl)|(refine kUD heq ?_ rfl rfl rfl)|refine kW cfgK_ok ?_|refine kC ?_|refine bdA ?_|refine bd2 ?_|refine bdR ?_|refine bdL ?_)<;>((repeat (first|(with_reducible refine evCut fun N hN hE hT=>?_)|(with_reducible refine evBlk fun N hN hE hT=>?_)));(try with_reducible refine evCnd fun X Y hX hY=>?_);(conv=>whnf)))|(refine And.intro ?_ ?_;rotate_left;(conv=>whnf);rotate_right))
                 all_goals (try (exact absurd ⟨by omega,by simpa using hb⟩ hlive2))
                 all_goals first|(rw [W1 (by assumption)];first|done|rfl)|(rw [W2 (by assumption)];first|done|rfl)|(rw [W3 (by assumption)];first|done|rfl)|(rw [W4 (by assumption)];first|done|rfl)|(rw [W5 (by assumption) (by assumption) (by assumption) (by assumption)];first|done|rfl|exact List.take_length)|(rw [List.drop_zero,List.take_length];done)|(rw [List.drop_zero,List.take_length];rfl)|trace_state
     · rw [o2,o3] at g7
       conv=>whnf
       repeat' (first|exact trivial|((first|((first|refine hT _ _ ?_|refine hE _ _ _ ?_|refine hN _ _ ?_);clear hN hE hT)|((first|refine hX ?_|refine hY ?_);clear hX hY)|refine kL ?_|(refine ⟨fun hb=>?_,fun hb=>?_⟩<;>(try simp only [nrm] at hb)<;>(try (first|(exfalso;omega)|contradiction|exact kB hb)))|refine kE g5 [(0,42)] rfl ?_ (hrd:=⟨rfl,trivial⟩)|refine kF g5 [(0,42)] rfl ?_ (hrd:=⟨rfl,trivial⟩)|refine kE g6 [(0,42)] rfl ?_ (hrd:=⟨rfl,trivial⟩)|refine kF g6 [(0,42)] rfl ?_ (hrd:=⟨rfl,trivial⟩)|refine kE g7 [(0,42)] rfl ?_ (hrd:=⟨rfl,trivial⟩)|refine kF g7 [(0,42)] rfl ?_ (hrd:=⟨rfl,trivial⟩)|refine kE g9 [(0,42)] rfl ?_ (hrd:=⟨rfl,trivial⟩)|refine kF g9 [(0,42)] rfl ?_ (hrd:=⟨rfl,trivial⟩)|refine kW cfgK_ok ?_|refine kC ?_|refine bdA ?_|refine bd2 ?_|refine bdR ?_|refine bdL ?_)<;>((repeat (first|(with_reducible refine evCut fun N hN hE hT=>?_)|(with_reducible refine evBlk fun N hN hE hT=>?_)));(try with_reducible refine evCnd fun X Y hX hY=>?_);(conv=>whnf)))|(refine And.intro ?_ ?_;rotate_left;(conv=>whnf);rotate_right))
       clear g5 g6 g7
       refine Runs.loopS cfgK_ok (σ:=List (El .chunk) × Nat × Nat × Bool) [1,2,4,6,7,10] (fun (l,r,p,u)=>[.vec .u8 b,.ptr 4 0,.ptr 8 0,.ptr 42 0,.ptr 14 0,i64 r]) (fun (l,r,p,u)=>[(4,.box (viewC v)),(8,.box (viewC emptyV)),(42,.box [.vec .u8 b,i64 p,bol u]),(14,.box [i64 t,i64 id,i64 x,i64 y,.vec .slot bag,i64 (w - 1),.vec .slot off,bol (decide (ag = 1)),.own .chunkC 350001 0 l.length none,.lit (.slice none 0 0)]),(350001,.row .chunkC l)])
         (fun (l,r,p,u)=>p ≤ b.length ∧ l.length + r ≤ 49 ∧ l ++ (manyR (chunkRS b v) r ⟨p,u⟩).1 = cs ∧ (manyR (chunkRS b v) r ⟨p,u⟩).2 = ⟨cp,cb⟩) (fun (l,r,p,u)=>r) ([],nc.toNat,np,nb) ⟨k9,by show 0 + nc.toNat ≤ 49;omega,(congrArg Prod.fst ec).symm,(congrArg Prod.snd ec).symm⟩ ?_ ?_
       · conv=>whnf
         repeat' (first|exact trivial|((first|((first|refine hT _ _ ?_|refine hE _ _ _ ?_|refine hN _ _ ?_);clear hN hE hT)|((first|refine hX ?_|refine hY ?_);clear hX hY)|refine kL ?_|(refine ⟨fun hb=>?_,fun hb=>?_⟩<;>(try simp only [nrm] at hb)<;>(try (first|(exfalso;omega)|contradiction|exact kB hb)))|refine kW cfgK_ok ?_|refine kC ?_|refine bdA ?_|refine bd2 ?_|refine bdR ?_|refine bdL ?_)<;>((repeat (first|(with_reducible refine evCut fun N hN hE hT=>?_)|(with_reducible refine evBlk fun N hN hE hT=>?_)));(try with_reducible refine evCnd fun X Y hX hY=>?_);(conv=>whnf)))|(refine And.intro ?_ ?_;rotate_left;(conv=>whnf);rotate_right))
         all_goals first|rfl|exact List.take_length|exact List.take_of_length_le (by rw [List.drop_zero];omega)|(dsimp only;exact congrArg (Value.int _) (by omega))|exact congrArg (Value.int _) (by omega)|exact row_grow (t:=.chunkC)|exact row_grow (t:=.seen)|exact o1.symm|trace_state
       · rintro ⟨l,r,p,u⟩ ⟨i1,i2,i3,i4⟩
         try dsimp only at i1 i2 i3 i4
         by_cases hlive : 0 < r ∧ u = false
         · obtain ⟨hr0,rfl⟩:=hlive
           obtain ⟨r,rfl⟩ : ∃ r' : Nat,r = r' + 1:=⟨r - 1,by omega⟩
           rw [many_next rfl] at i3 i4
           have q1:=rchunkF_ev b v ⟨p,false⟩ hv hB h8 hl i1
           have q2 : (chunkRS b v ⟨p,false⟩).2.pos ≤ b.length:=chunkRS_pos h8 i1
           generalize chunkRS b v ⟨p,false⟩ = C at *
           obtain ⟨c,zp,zb⟩:=C
           dsimp only at *
           change Ev1 _ _ _ [(0,.box [.vec .u8 b,i64 p,bol false])] _ [(0,.box [.vec .u8 b,i64 zp,bol zb])] at q1
           conv=>whnf
           repeat' (first|exact trivial|((first|((first|refine hT _ _ ?_|refine hE _ _ _ ?_|refine hN _ _ ?_);clear hN hE hT)|((first|refine hX ?_|refine hY ?_);clear hX hY)|refine kL ?_|(refine ⟨fun hb=>?_,fun hb=>?_⟩<;>(try simp only [nrm] at hb)<;>(try (first|(exfalso;omega)|contradiction|exact kB hb)))|refine kE q1 [(0,42)] rfl ?_ (hrd:=⟨rfl,trivial⟩)|refine kF q1 [(0,42)] rfl ?_ (hrd:=⟨rfl,trivial⟩)|refine kW cfgK_ok ?_|refine kC ?_|refine bdA ?_|refine bd2 ?_|refine bdR ?_|refine bdL ?_)<;>((repeat (first|(with_reducible refine evCut fun N hN hE hT=>?_)|(with_reducible refine evBlk fun N hN hE hT=>?_)));(try with_reducible refine evCnd fun X Y hX hY=>?_);(conv=>whnf)))|(refine And.intro ?_ ?_;rotate_left;(conv=>whnf);rotate_right))
           refine .to (l ++ [c],r,zp,zb) ⟨q2,by show (l ++ [_]).length + r ≤ 49;rw [List.length_append,List.length_singleton];omega,by rw [List.append_assoc];exact i3,i4⟩ (by first|omega|(dsimp only;omega)) ?_
           conv=>whnf
           repeat' (first|exact trivial|((first|((first|refine hT _ _ ?_|refine hE _ _ _ ?_|refine hN _ _ ?_);clear hN hE hT)|((first|refine hX ?_|refine hY ?_);clear hX hY)|refine kL ?_|(refine ⟨fun hb=>?_,fun hb=>?_⟩<;>(try simp only [nrm] at hb)<;>(try (first|(exfalso;omega)|contradiction|exact kB hb)))|refine kW cfgK_ok ?_|refine kC ?_|refine bdA ?_|refine bd2 ?_|refine bdR ?_|refine bdL ?_)<;>((repeat (first|(with_reducible refine evCut fun N hN hE hT=>?_)|(with_reducible refine evBlk fun N hN hE hT=>?_)));(try with_reducible refine evCnd fun X Y hX hY=>?_);(conv=>whnf)))|(refine And.intro ?_ ?_;rotate_left;(conv=>whnf);rotate_right))
           all_goals first|rfl|exact List.take_length|exact List.take_of_length_le (by rw [List.drop_zero];omega)|(dsimp only;exact congrArg (Value.int _) (by omega))|exact congrArg (Value.int _) (by omega)|exact row_grow (t:=.chunkC)|exact row_grow (t:=.seen)|exact o1.symm|trace_state
         · rw [many_dead hlive] at i3 i4
           obtain rfl : cs = l:=by rw [← i3];simp
           obtain ⟨d2,d3⟩:=Rd.mk.inj i4
           obtain rfl : cp = p:=d2.symm
           obtain rfl : cb = u:=d3.symm
           clear i3 i4 d2 d3 g9
           conv=>whnf
           repeat' (first|exact trivial|((first|((first|refine hT _ _ ?_|refine hE _ _ _ ?_|refine hN _ _ ?_);clear hN hE hT)|((first|refine hX ?_|refine hY ?_);clear hX hY)|refine kL ?_|(refine ⟨fun hb=>?_,fun hb=>?_⟩<;>(try simp only [nrm] at hb)<;>(try (first|(exfalso;omega)|contradiction|exact kB hb)))|refine kE g10 [(0,42)] rfl ?_ (hrd:=⟨rfl,trivial⟩)|refine kF g10 [(0,42)] rfl ?_ (hrd:=⟨rfl,trivial⟩)|refine kW cfgK_ok ?_|refine kC ?_|refine bdA ?_|refine bd2 ?_|refine bdR ?_|refine bdL ?_)<;>((repeat (first|(with_reducible refine evCut fun N hN hE hT=>?_)|(with_reducible refine evBlk fun N hN hE hT=>?_)));(try with_reducible refine evCnd fun X Y hX hY=>?_);(conv=>whnf)))|(refine And.intro ?_ ?_;rotate_left;(conv=>whnf);rotate_right))
           all_goals (try (exact absurd ⟨by omega,by simpa using hb⟩ hlive))
           all_goals
             refine Runs.loopS cfgK_ok (σ:=List (El .seen) × Nat × Nat × Bool) [1,2,4,6,7,11] (fun (l,r,p,u)=>[.vec .u8 b,.ptr 4 0,.ptr 8 0,.ptr 42 0,.ptr 14 0,i64 r]) (fun (l,r,p,u)=>[(4,.box (viewC v)),(8,.box (viewC emptyV)),(42,.box [.vec .u8 b,i64 p,bol u]),(14,.box [i64 t,i64 id,i64 x,i64 y,.vec .slot bag,i64 (w - 1),.vec .slot off,bol (decide (ag = 1)),.vec .chunkC cs,.own .seen 215 0 l.length none]),(215,.row .seen l)])
               (fun (l,r,p,u)=>p ≤ b.length ∧ l.length + r ≤ 32 ∧ l ++ (manyR (seenR b) r ⟨p,u⟩).1 = os ∧ (manyR (seenR b) r ⟨p,u⟩).2 = ⟨sp,sb⟩) (fun (l,r,p,u)=>r) ([],no.toNat,mp,mb) ⟨k11,by show 0 + no.toNat ≤ 32;omega,(congrArg Prod.fst es).symm,(congrArg Prod.snd es).symm⟩ ?_ ?_
             · conv=>whnf
               repeat' (first|exact trivial|((first|((first|refine hT _ _ ?_|refine hE _ _ _ ?_|refine hN _ _ ?_);clear hN hE hT)|((first|refine hX ?_|refine hY ?_);clear hX hY)|refine kL ?_|(refine ⟨fun hb=>?_,fun hb=>?_⟩<;>(try simp only [nrm] at hb)<;>(try (first|(exfalso;omega)|contradiction|exact kB hb)))|refine kW cfgK_ok ?_|refine kC ?_|refine bdA ?_|refine bd2 ?_|refine bdR ?_|refine bdL ?_)<;>((repeat (first|(with_reducible refine evCut fun N hN hE hT=>?_)|(with_reducible refine evBlk fun N hN hE hT=>?_)));(try with_reducible refine evCnd fun X Y hX hY=>?_);(conv=>whnf)))|(refine And.intro ?_ ?_;rotate_left;(conv=>whnf);rotate_right))
               all_goals first|rfl|exact List.take_length|exact List.take_of_length_le (by rw [List.drop_zero];omega)|(dsimp only;exact congrArg (Value.int _) (by omega))|exact congrArg (Value.int _) (by omega)|exact row_grow (t:=.chunkC)|exact row_grow (t:=.seen)|exact o1.symm|trace_state
             · rintro ⟨l,r2,p,u⟩ ⟨i1,i2,i3,i4⟩
               try dsimp only at i1 i2 i3 i4
               by_cases hlive2 : 0 < r2 ∧ u = false
               · obtain ⟨hr0,rfl⟩:=hlive2
                 obtain ⟨r2,rfl⟩ : ∃ r' : Nat,r2 = r' + 1:=⟨r2 - 1,by omega⟩
                 rw [many_next rfl] at i3 i4
                 have q1:=snum_ev b ⟨p,false⟩ B40 h8 hl i1 (by decide)
                 have q2 : (numI b B40 ⟨p,false⟩).2.pos ≤ b.length:=numI_pos h8 i1
                 have q3:=snum_ev b (numI b B40 ⟨p,false⟩).2 B40 h8 hl q2 (by decide)
                 have q4 : (numI b B40 (numI b B40 ⟨p,false⟩).2).2.pos ≤ b.length:=numI_pos h8 q2
                 have q5:=snum_ev b (numI b B40 (numI b B40 ⟨p,false⟩).2).2 B40 h8 hl q4 (by decide)
                 have q6 : (numI b B40 (numI b B40 (numI b B40 ⟨p,false⟩).2).2).2.pos ≤ b.length:=numI_pos h8 q4
                 have q7 : seenR b ⟨p,false⟩ = (⟨(numI b B40 ⟨p,false⟩).1,(numI b B40 (numI b B40 ⟨p,false⟩).2).1,(numI b B40 (numI b B40 (numI b B40 ⟨p,false⟩).2).2).1⟩,(numI b B40 (numI b B40 (numI b B40 ⟨p,false⟩).2).2).2):=rfl
                 rw [q7] at i3 i4
                 clear q7
                 generalize numI b B40 ⟨p,false⟩ = A1 at *
                 obtain ⟨a1,a2,a3⟩:=A1
                 dsimp only at *
                 generalize numI b B40 ⟨a2,a3⟩ = A2 at *
                 obtain ⟨e1,e2,e3⟩:=A2
                 dsimp only at *
                 generalize numI b B40 ⟨e2,e3⟩ = A3 at *
                 obtain ⟨f1,f2,f3⟩:=A3
                 dsimp only at *
                 change Ev1 _ _ _ [(0,.box [.vec .u8 b,i64 p,bol false])] _ [(0,.box [.vec .u8 b,i64 a2,bol a3])] at q1
                 change Ev1 _ _ _ [(0,.box [.vec .u8 b,i64 a2,bol a3])] _ [(0,.box [.vec .u8 b,i64 e2,bol e3])] at q3
                 change Ev1 _ _ _ [(0,.box [.vec .u8 b,i64 e2,bol e3])] _ [(0,.box [.vec .u8 b,i64 f2,bol f3])] at q5
                 conv=>whnf
                 repeat' (first|exact trivial|((first|((first|refine hT _ _ ?_|refine hE _ _ _ ?_|refine hN _ _ ?_);clear hN hE hT)|((first|refine hX ?_|refine hY ?_);clear hX hY)|refine kL ?_|(refine ⟨fun hb=>?_,fun hb=>?_⟩<;>(try simp only [nrm] at hb)<;>(try (first|(exfalso;omega)|contradiction|exact kB hb)))|refine kE q1 [(0,42)] rfl ?_ (hrd:=⟨rfl,trivial⟩)|refine kF q1 [(0,42)] rfl ?_ (hrd:=⟨rfl,trivial⟩)|refine kE q3 [(0,42)] rfl ?_ (hrd:=⟨rfl,trivial⟩)|refine kF q3 [(0,42)] rfl ?_ (hrd:=⟨rfl,trivial⟩)|refine kE q5 [(0,42)] rfl ?_ (hrd:=⟨rfl,trivial⟩)|refine kF q5 [(0,42)] rfl ?_ (hrd:=⟨rfl,trivial⟩)|refine kW cfgK_ok ?_|refine kC ?_|refine bdA ?_|refine bd2 ?_|refine bdR ?_|refine bdL ?_)<;>((repeat (first|(with_reducible refine evCut fun N hN hE hT=>?_)|(with_reducible refine evBlk fun N hN hE hT=>?_)));(try with_reducible refine evCnd fun X Y hX hY=>?_);(conv=>whnf)))|(refine And.intro ?_ ?_;rotate_left;(conv=>whnf);rotate_right))
                 refine .to (l ++ [⟨a1,e1,f1⟩],r2,f2,f3) ⟨q6,by show (l ++ [_]).length + r2 ≤ 32;rw [List.length_append,List.length_singleton];omega,by rw [List.append_assoc];exact i3,i4⟩ (by first|omega|(dsimp only;omega)) ?_
                 conv=>whnf
                 repeat' (first|exact trivial|((first|((first|refine hT _ _ ?_|refine hE _ _ _ ?_|refine hN _ _ ?_);clear hN hE hT)|((first|refine hX ?_|refine hY ?_);clear hX hY)|refine kL ?_|(refine ⟨fun hb=>?_,fun hb=>?_⟩<;>(try simp only [nrm] at hb)<;>(try (first|(exfalso;omega)|contradiction|exact kB hb)))|refine kW cfgK_ok ?_|refine kC ?_|refine bdA ?_|refine bd2 ?_|refine bdR ?_|refine bdL ?_)<;>((repeat (first|(with_reducible refine evCut fun N hN hE hT=>?_)|(with_reducible refine evBlk fun N hN hE hT=>?_)));(try with_reducible refine evCnd fun X Y hX hY=>?_);(conv=>whnf)))|(refine And.intro ?_ ?_;rotate_left;(conv=>whnf);rotate_right))
                 all_goals first|rfl|exact List.take_length|exact List.take_of_length_le (by rw [List.drop_zero];omega)|(dsimp only;exact congrArg (Value.int _) (by omega))|exact congrArg (Value.int _) (by omega)|exact row_grow (t:=.chunkC)|exact row_grow (t:=.seen)|exact o1.symm|trace_state
               · rw [many_dead hlive2] at i3 i4
                 obtain rfl : os = l:=by rw [← i3];simp
                 obtain ⟨d2,d3⟩:=Rd.mk.inj i4
                 obtain rfl : sp = p:=d2.symm
                 obtain rfl : sb = u:=d3.symm
                 clear i3 i4 d2 d3
                 conv=>whnf
                 repeat' (first|exact trivial|((first|((first|refine hT _ _ ?_|refine hE _ _ _ ?_|refine hN _ _ ?_);clear hN hE hT)|((first|refine hX ?_|refine hY ?_);clear hX hY)|refine kL ?_|(refine ⟨fun hb=>?_,fun hb=>?_⟩<;>(try simp only [nrm] at hb)<;>(try (first|(exfalso;omega)|contradiction|exact kB hb)))|(refine kN hmk2 ?_ rfl)|(refine kU heq ?_ rfl rfl rfl)|(refine kUD heq ?_ rfl rfl rfl)|refine kW cfgK_ok ?_|refine kC ?_|refine bdA ?_|refine bd2 ?_|refine bdR ?_|refine bdL ?_)<;>((repeat (first|(with_reducible refine evCut fun N hN hE hT=>?_)|(with_reducible refine evBlk fun N hN hE hT=>?_)));(try with_reducible refine evCnd fun X Y hX hY=>?_);(conv=>whnf)))|(refine And.intro ?_ ?_;rotate_left;(conv=>whnf);rotate_right))
                 all_goals (try (exact absurd ⟨by omega,by simpa using hb⟩ hlive2))
                 all_goals first|(rw [W1 (by assumption)];first|done|rfl)|(rw [W2 (by assumption)];first|done|rfl)|(rw [W3 (by assumption)];first|done|rfl)|(rw [W4 (by assumption)];first|done|rfl)|(rw [W5 (by assumption) (by assumption) (by assumption) (by assumption)];first|done|rfl|exact List.take_length)|(rw [List.drop_zero,List.take_length];done)|(rw [List.drop_zero,List.take_length];rfl)|trace_state
end Go.Proofs.YtaecchphjploaaaGreat
