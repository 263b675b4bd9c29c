/- homesteadlaw16.RulesBack. -/
import Derived.Test.YtkojlembanldcaaGreatRb
import Derived.Test.YtkojlembanldcaaGreatRf
import Derived.Test.YtkojlembanldcaaGreatGk
import Derived.Test.YtkojlembanldcaaGreatGg
import Derived.Test.YtkojlembanldcaaGreatRc
set_option linter.unusedSimpArgs false
set_option linter.unusedVariables false
set_option maxRecDepth 100000
set_option maxHeartbeats 4000000
namespace Go.Proofs.YtkojlembanldcaaGreat
open Go Go.RowKit Eng
theorem set_over {l : List Player} {p q : Player} (h : risesK pid l) (hi : p.id = q.id) (hg : getK pid l q.id = some q) : setL (setL l p) q = l:=by
 refine risesK_ext (risesK_setL (risesK_setL h)) h fun t=>?_
 rw [getK_setL (risesK_setL h),getK_setL h]
 by_cases ht : t = q.id
 · rw [if_pos ht,ht,hg]
 · rw [if_neg ht,if_neg (by rw [hi];exact ht)]
theorem chunk_put {w : Wld} {k : Chunk} {l : List Player} (hR : RW w) (hk : rightB k = true) (hm : max k.x k.y < w.size) (hn : RW (withP (withCs w (putL w.seed w.chunks k)) l)) : (chunkW (withP (withCs w (putL w.seed w.chunks k)) l) k.x k.y).1 = k:=by
 have hc:=chunk_get (k:=k) hn hk hm
 rw [hc,show (withP (withCs w (putL w.seed w.chunks k)) l).chunks = putL w.seed w.chunks k from rfl,getK_putL hR.rc,if_pos rfl]
 by_cases hp : plainW w.seed k = true
 · rw [if_pos hp];exact (plain_eq hk hp).symm
 · rw [if_neg hp]
theorem have_ext {w v : Wld} (h : ∀ k : Nat,k < 13 → tw k v = tw k w) : haveW v = haveW w:=by
 unfold haveW hv
 congr 1
 refine List.map_congr_left fun k hk=>?_
 exact h k (List.mem_range.1 hk)
structure Undone (w : Wld) (p : Player) (x y : Int) (r : Wld × Int) : Prop where
 ok : r.2 = 0
 rw : RW r.1
 pl : ∃ p2,playerW r.1 p.id = (p2,true) ∧ p2.x = p.x ∧ p2.y = p.y
 hv : haveW r.1 = haveW w
 ch : (chunkW r.1 x y).1 = (chunkW w x y).1
theorem act_apply {w : Wld} {p : Player} {c : Cmd} (hp : Here w p) (hD : rightD c = true) (h1 : ¬ c.dol = 1) (h : (actA w p c).2 = 0) : applyW w p.id c = ((actA w p c).1,0):=by
 rw [apply_go hp,if_neg (by rw [hD];simp),if_neg h1,if_neg (not_not_intro h)]
theorem move_back {w : Wld} {p : Player} {c : Cmd} (hp : Here w p) (hD : rightD c = true) (h2 : c.dol = 2) (h : (actA w p c).2 = 0) (hair : (atW w p.x p.y).1 = 0) (x y : Int) :
   Undone w p x y (applyW (actA w p c).1 p.id { c with a:=-c.a,b:=-c.b }):=by
 have e : actA w p c = moveA w p c:=by unfold actA;rw [if_pos h2]
 rw [e] at h ⊢
 have hs : moveA w p c = setW w { p with x:=p.x + c.a,y:=p.y + c.b }:=by
   unfold moveA at h ⊢
   split at h
   · simp at h
   · rename_i h3
     rw [if_neg h3]
     split at h
     · simp at h
     · rename_i h4;rw [if_neg h4]
 rw [hs] at h ⊢
 obtain ⟨s1,s2⟩:=set_good h
 rw [s2]
 have hn:=rw_set s1
 have hH : Here (withP w (setL w.players { p with x:=p.x + c.a,y:=p.y + c.b })) { p with x:=p.x + c.a,y:=p.y + c.b }:=
   ⟨hn,by rw [show (withP w (setL w.players { p with x:=p.x + c.a,y:=p.y + c.b })).players = setL w.players { p with x:=p.x + c.a,y:=p.y + c.b } from rfl,getK_setL hp.rw.rp,if_pos rfl]⟩
 have hD2 : rightD { c with a:=-c.a,b:=-c.b } = true:=by
   obtain ⟨d,a,b,u,n⟩:=c
   dsimp only at h2 ⊢
   subst h2
   have h' : (rngB (-1) 1 a && (rngB (-1) 1 b && (zeroB u && zeroB n))) = true:=hD
   show (rngB (-1) 1 (-a) && (rngB (-1) 1 (-b) && (zeroB u && zeroB n))) = true
   simp only [rngB,Bool.and_eq_true,decide_eq_true_eq] at h' ⊢
   exact ⟨by omega,by omega,h'.2.2.1,h'.2.2.2⟩
 have hin:=hp.sound.2
 have hat : atW (withP w (setL w.players { p with x:=p.x + c.a,y:=p.y + c.b })) p.x p.y = atW w p.x p.y:=by
   rw [at_place hp.rw hin,at_place hn hin]
   have hb:=(within_iff hp.rw).1 hin
   unfold placeC
   rw [(chunkW_in hp.rw (x:=p.x / 8) (y:=p.y / 8) (by omega) (by omega)).1,(chunkW_in hn (x:=p.x / 8) (y:=p.y / 8) (by show _ ∧ _ < w.size;omega) (by show _ ∧ _ < w.size;omega)).1]
   rfl
 have hmv : actA (withP w (setL w.players { p with x:=p.x + c.a,y:=p.y + c.b })) { p with x:=p.x + c.a,y:=p.y + c.b } { c with a:=-c.a,b:=-c.b } = (w,0):=by
   have e2 : ∀ v q,actA v q { c with a:=-c.a,b:=-c.b } = moveA v q { c with a:=-c.a,b:=-c.b }:=fun v q=>by unfold actA;rw [if_pos h2]
   rw [e2]
   unfold moveA
   dsimp only
   rw [show p.x + c.a + -c.a = p.x by omega,show p.y + c.b + -c.b = p.y by omega,if_neg (by show ¬ withinW w.size p.x p.y = false;rw [hin];simp),if_neg (by rw [hat];exact not_not_intro hair)]
   have ho : setOk (withP w (setL w.players { p with x:=p.x + c.a,y:=p.y + c.b })) p:=⟨hn,hp.sound.1,hin,.inl (by
     rw [show (withP w (setL w.players { p with x:=p.x + c.a,y:=p.y + c.b })).players = setL w.players { p with x:=p.x + c.a,y:=p.y + c.b } from rfl,getK_setL hp.rw.rp,if_pos rfl];rfl)⟩
   have hso:=set_over (p:={ p with x:=p.x + c.a,y:=p.y + c.b }) (q:=p) hp.rw.rp rfl hp.get
   have : setW (withP w (setL w.players { p with x:=p.x + c.a,y:=p.y + c.b })) p = (w,0):=by
     rw [set_eq ho]
     refine congrArg (fun z=>(z,(0 : Int))) ?_
     exact wld_ext rfl rfl rfl rfl hso
   exact this
 have ha:=act_apply hH hD2 (by show ¬ c.dol = 1;omega) (by rw [hmv])
 rw [hmv] at ha
 rw [show ({ p with x:=p.x + c.a,y:=p.y + c.b } : Player).id = p.id from rfl] at ha
 rw [ha]
 exact ⟨rfl,hp.rw,⟨p,here_player hp,rfl,rfl⟩,rfl,rfl⟩
theorem keep_twice {w : Wld} {p p1 p2 : Player} {K S : Chunk} (hp : Here w p) (x y : Int) (hin : withinW w.size x y = true) (hK : placeC w x y = K) (hk1 : keepA w S p1 = (withP (withCs w (putL w.seed w.chunks S)) (setL w.players p1),0)) (hSx : S.x = K.x) (hSy : S.y = K.y)
   (hi1 : p1.id = p.id) (hi2 : p2.id = p.id) (hx2 : p2.x = p.x) (hy2 : p2.y = p.y) (hs2 : soundB p2 = true) :
   RW (withP (withCs w (putL w.seed w.chunks S)) (setL w.players p1)) ∧ Here (withP (withCs w (putL w.seed w.chunks S)) (setL w.players p1)) p1 ∧ placeC (withP (withCs w (putL w.seed w.chunks S)) (setL w.players p1)) x y = S ∧
   (keepA (withP (withCs w (putL w.seed w.chunks S)) (setL w.players p1)) K p2).2 = 0 ∧ playerW (keepA (withP (withCs w (putL w.seed w.chunks S)) (setL w.players p1)) K p2).1 p.id = (p2,true) ∧
   RW (keepA (withP (withCs w (putL w.seed w.chunks S)) (setL w.players p1)) K p2).1 ∧ (chunkW (keepA (withP (withCs w (putL w.seed w.chunks S)) (setL w.players p1)) K p2).1 (x / 8) (y / 8)).1 = K:=by
 have h0 : (keepA w S p1).2 = 0:=by rw [hk1]
 obtain ⟨a1,a2,a3,a4,a5⟩:=keep_good h0
 have hn:=keep_rw h0
 rw [hk1] at hn
 dsimp only at hn
 obtain ⟨b1,b2,b3⟩:=place_right hp.rw hin
 rw [hK] at b1 b2 b3
 have hsz : (withP (withCs w (putL w.seed w.chunks S)) (setL w.players p1)).size = w.size:=rfl
 have hpl : (withP (withCs w (putL w.seed w.chunks S)) (setL w.players p1)).players = setL w.players p1:=rfl
 have hH : Here (withP (withCs w (putL w.seed w.chunks S)) (setL w.players p1)) p1:=⟨hn,by rw [hpl,getK_setL hp.rw.rp,if_pos rfl]⟩
 have hS : placeC (withP (withCs w (putL w.seed w.chunks S)) (setL w.players p1)) x y = S:=by
   have:=chunk_put (l:=setL w.players p1) a1 a2 a3 hn
   rw [hSx,hSy,b2,b3] at this
   exact this
 have hm : max K.x K.y < w.size:=by rw [b2,b3];exact place_max hp.rw hin
 have q:=put_eq hn b1 hm
 have r:=rw_put hn b1 hm
 have ho : setOk (withCs (withP (withCs w (putL w.seed w.chunks S)) (setL w.players p1)) (putL w.seed (putL w.seed w.chunks S) K)) p2:=⟨r,hs2,by show withinW w.size p2.x p2.y = true;rw [hx2,hy2];exact hp.sound.2,.inl (by
   show (getK pid (setL w.players p1) p2.id).isSome = true
   rw [getK_setL hp.rw.rp,if_pos (by rw [hi1,hi2])];rfl)⟩
 have hk : keepA (withP (withCs w (putL w.seed w.chunks S)) (setL w.players p1)) K p2 = (withP (withCs (withP (withCs w (putL w.seed w.chunks S)) (setL w.players p1)) (putL w.seed (putL w.seed w.chunks S) K)) (setL (setL w.players p1) p2),0):=by
   unfold keepA
   rw [q,if_neg (not_not_intro rfl)]
   exact set_eq ho
 have hn2 : RW (withP (withCs (withP (withCs w (putL w.seed w.chunks S)) (setL w.players p1)) (putL w.seed (putL w.seed w.chunks S) K)) (setL (setL w.players p1) p2)):=rw_set ho
 refine ⟨hn,hH,hS,by rw [hk],?_,by rw [hk];exact hn2,?_⟩
 · rw [hk]
   dsimp only
   rw [playerW_get hn2]
   rw [show (withP (withCs (withP (withCs w (putL w.seed w.chunks S)) (setL w.players p1)) (putL w.seed (putL w.seed w.chunks S) K)) (setL (setL w.players p1) p2)).players = setL (setL w.players p1) p2 from rfl,getK_setL (risesK_setL hp.rw.rp),if_pos hi2.symm]
 · rw [hk]
   have:=chunk_put (w:=withP (withCs w (putL w.seed w.chunks S)) (setL w.players p1)) (k:=K) (l:=setL (setL w.players p1) p2) hn b1 hm hn2
   rw [b2,b3] at this
   exact this
open Go Go.RowKit Eng
theorem putC_back {K : Chunk} (hK : rightB K = true) {I it : Int} (hI : 0 ≤ I ∧ I < 64) (h0 : cellA K I = 0) (hit : itemOk it = true) : setC (putC K I it) I 0 = (K,0) ∧ cellA (putC K I it) I = it:=by
 have hS:=right_put hK hI.1 hI.2 hit
 have hf:=right_fits hK
 have hl:=right_len hK
 have hno : getB K.boxes I = none:=by
   have hc:=chest_iff hK hI.1 hI.2
   have h0' : elt .u8 K.cells I.toNat = (0 : Int):=h0
   cases hg : getB K.boxes I with
   | none=>rfl
   | some s =>
     rw [hg] at hc
     have:=hc.2 rfl
     rw [h0'] at this
     exact absurd this (by decide)
 have hg1 : getB (putC K I it).boxes I = if it = 9 then some newBag else none:=by
   show getB (putB K.boxes I it) I = _
   rw [getB_putB hf.up,if_pos rfl]
 constructor
 · rw [setC_right hS hI.1 hI.2,if_neg (by decide),if_neg (by
     unfold fullAt
     rw [hg1]
     by_cases h9 : it = 9
     · rw [if_pos h9];decide
     · rw [if_neg h9];simp)]
   have e1 : (K.cells.set I.toNat it).set I.toNat 0 = K.cells:=by
     rw [List.set_set]
     have h0' : elt .u8 K.cells I.toNat = (0 : Int):=h0
     conv=>lhs;rw [← h0']
     exact set_elt_u8
   have e2 : putB (putB K.boxes I it) I 0 = K.boxes:=rises_ext (rises_putB (rises_putB hf.up _ _) _ _) hf.up fun u=>by
     rw [getB_putB (rises_putB hf.up _ _),getB_putB hf.up]
     split
     · rename_i hu;rw [hu,hno];rfl
     · rfl
   show ((putC (putC K I it) I 0),(0 : Int)) = (K,0)
   simp only [putC,e1,e2]
 · show elt .u8 (K.cells.set I.toNat it) I.toNat = it
   unfold elt
   rw [List.getElem?_set_self (by omega)];rfl
theorem place_back {w : Wld} {p : Player} {c : Cmd} (hp : Here w p) (hD : rightD c = true) (h4 : c.dol = 4) (h : (actA w p c).2 = 0) (hleaf : ¬ (elt .slot p.bag c.c.toNat).item = 4) :
   Undone w p (c.a / 8) (c.b / 8) (applyW (actA w p c).1 p.id ⟨3,c.a,c.b,0,0⟩):=by
 have hcnt:=place_count (k:=0) hp (by rw [← actA_4 h4];exact h)
 have hcnt2:=fun k=>place_count (k:=k) hp (by rw [← actA_4 h4];exact h)
 rw [actA_4 h4] at h ⊢
 have hpl:=place_in h
 obtain ⟨n1,n2,n3,n4,n5,n6,n7,n8⟩:=takeS_n hpl.1
 obtain ⟨_,_,t1,t2⟩:=take_item hpl.1
 have hback:=putS_back n4 (a:=c.c.toNat) (n:=1) (by omega) (by omega) n7
 have htb:=take_bagOk n4 (a:=c.c.toNat) (n:=1) (by omega) (by omega) n7
 have hin:=hpl.2
 obtain ⟨hK,hKx,hKy⟩:=place_right hp.rw hin
 have hI:=placeI_bd c.a c.b
 have hform : aimE w p c.a c.b = 0 ∧ blockB (elt .slot p.bag c.c.toNat).item = true ∧ cellA (placeC w c.a c.b) (placeI c.a c.b) = 0 ∧ (setC (placeC w c.a c.b) (placeI c.a c.b) (elt .slot p.bag c.c.toNat).item).2 = 0 ∧
     placeA w p c = keepA w (setC (placeC w c.a c.b) (placeI c.a c.b) (elt .slot p.bag c.c.toNat).item).1 { p with bag:=p.bag.set c.c.toNat (lessS (elt .slot p.bag c.c.toNat) 1) }:=by
   unfold placeA at h ⊢
   rw [n8] at h ⊢
   dsimp only at h ⊢
   split at h
   · rename_i h1;exact absurd h h1
   · rename_i h1
     rw [if_neg h1]
     rw [if_neg (not_not_intro rfl)] at h ⊢
     split at h
     · simp at h
     · rename_i h2
       rw [if_neg h2]
       split at h
       · simp at h
       · rename_i h3
         rw [if_neg h3]
         split at h
         · rename_i h5;exact absurd h h5
         · rename_i h5
           rw [if_neg h5]
           exact ⟨Decidable.not_not.1 h1,by simpa using h2,Decidable.not_not.1 (fun hx=>h3 (.inl hx)),Decidable.not_not.1 h5,rfl⟩
 obtain ⟨f1,f2,f3,f4,f5⟩:=hform
 have hit : itemOk (elt .slot p.bag c.c.toNat).item = true:=by unfold itemOk;rw [f2];simp
 have hset : setC (placeC w c.a c.b) (placeI c.a c.b) (elt .slot p.bag c.c.toNat).item = (putC (placeC w c.a c.b) (placeI c.a c.b) (elt .slot p.bag c.c.toNat).item,0):=by
   rw [setC_right hK hI.1 hI.2] at f4 ⊢
   rw [if_neg (by rw [hit];simp)] at f4 ⊢
   split at f4
   · simp at f4
   · rename_i hx;rw [if_neg hx]
 rw [hset] at f5
 dsimp only at f5
 obtain ⟨c1,c2⟩:=putC_back hK hI f3 hit
 rw [f5] at h hcnt2 ⊢
 obtain ⟨a1,a2,a3,a4,a5⟩:=keep_good h
 generalize hit0 : (elt .slot p.bag c.c.toNat).item = it at *
 generalize hT : p.bag.set c.c.toNat (lessS (elt .slot p.bag c.c.toNat) 1) = T at *
 have hTl : T.length = 8:=by rw [← hT,List.length_set];exact hp.bag.1
 have hpb:=putS_bagOk (i:=it) (n:=1) htb
 have hpbl:=putS_length T it 1
 have hk1 : keepA w (putC (placeC w c.a c.b) (placeI c.a c.b) it) { p with bag:=T } = (withP (withCs w (putL w.seed w.chunks (putC (placeC w c.a c.b) (placeI c.a c.b) it))) (setL w.players { p with bag:=T }),0):=Prod.ext a5 h
 have hs2 : soundB { p with bag:=(putS T it 1).1 } = true:=soundB_bag hp.sound.1 (by omega) hpb
 obtain ⟨k1,k2,k3,k4,k5,k6,k7⟩:=keep_twice (p1:={ p with bag:=T }) (p2:={ p with bag:=(putS T it 1).1 }) hp c.a c.b hin rfl hk1 rfl rfl rfl rfl rfl rfl hs2
 rw [a5] at hcnt2 ⊢
 generalize hn : withP (withCs w (putL w.seed w.chunks (putC (placeC w c.a c.b) (placeI c.a c.b) it))) (setL w.players { p with bag:=T }) = n at *
 have hsz : n.size = w.size:=by rw [← hn];rfl
 have hgv : givesI it = it:=by unfold givesI;rw [if_neg hleaf,if_pos f2]
 have hb : breakA n { p with bag:=T } ⟨3,c.a,c.b,0,0⟩ = keepA n (placeC w c.a c.b) { p with bag:=(putS T it 1).1 }:=by
   unfold breakA
   dsimp only
   rw [if_neg (show ¬ ¬ aimE n { p with bag:=T } c.a c.b = 0 from by unfold aimE;rw [hsz];exact not_not_intro f1),k3,c2,if_neg (by omega),c1]
   dsimp only
   rw [if_neg (not_not_intro rfl),hgv,if_neg (by omega)]
 have ha : actA n { p with bag:=T } ⟨3,c.a,c.b,0,0⟩ = keepA n (placeC w c.a c.b) { p with bag:=(putS T it 1).1 }:=(actA_3 rfl).trans hb
 have hD3 : rightD ⟨3,c.a,c.b,0,0⟩ = true:=by
   have hab:=rightD_place hD (.inr (.inl h4))
   show (rngB 0 127 c.a && (rngB 0 127 c.b && (zeroB 0 && zeroB 0))) = true
   simp only [rngB,zeroB,Bool.and_eq_true,decide_eq_true_eq]
   exact ⟨hab.1,hab.2,by simp⟩
 have hap:=act_apply k2 hD3 (by dsimp only;omega) (by rw [ha];exact k4)
 rw [show ({ p with bag:=T } : Player).id = p.id from rfl] at hap
 have hbc:=fun k=>break_count (w:=n) (p:={ p with bag:=T }) (c:=⟨3,c.a,c.b,0,0⟩) k2 (by rw [hb];exact k4) k
 rw [hb] at hbc
 have hat : atW n c.a c.b = (it,true):=by rw [at_place k2.rw (by rw [hsz];exact hin),k3,c2]
 rw [hap,ha]
 refine ⟨rfl,k6,⟨_,k5,rfl,rfl⟩,have_ext fun k _=>?_,k7⟩
 have e1:=hbc k
 have e2:=hcnt2 k
 rw [hat,hgv] at e1
 dsimp only at e1 e2 ⊢
 omega
theorem drop_back {w : Wld} {p : Player} {c : Cmd} (hp : Here w p) (h6 : c.dol = 6) (h : (actA w p c).2 = 0) (hbare : ∀ x ∈ (placeC w p.x p.y).heaps,¬ x.cell = placeI p.x p.y) :
   Undone w p (p.x / 8) (p.y / 8) (applyW (actA w p c).1 p.id ⟨5,0,0,0,0⟩):=by
 have e6 : ∀ v q,actA v q c = dropA v q c:=fun v q=>by
   unfold actA
   rw [if_neg (by omega),if_neg (by omega),if_neg (by omega),if_neg (by omega),if_pos h6]
 rw [e6] at h ⊢
 have hcnt:=fun k=>drop_count (k:=k) hp h
 have hin:=hp.sound.2
 obtain ⟨hK,hKx,hKy⟩:=place_right hp.rw hin
 have hI:=placeI_bd p.x p.y
 have hform : (takeS p.bag c.c c.n).2.2 = 0 ∧ (dropC (placeC w p.x p.y) (placeI p.x p.y) (takeS p.bag c.c c.n).2.1).2 = 0 ∧
     dropA w p c = keepA w (dropC (placeC w p.x p.y) (placeI p.x p.y) (takeS p.bag c.c c.n).2.1).1 { p with bag:=(takeS p.bag c.c c.n).1 }:=by
   unfold dropA at h ⊢
   split at h
   · rename_i h1;exact absurd h h1
   · rename_i h1
     rw [if_neg h1]
     split at h
     · rename_i h2;exact absurd h h2
     · rename_i h2
       rw [if_neg h2]
       exact ⟨Decidable.not_not.1 h1,Decidable.not_not.1 h2,rfl⟩
 obtain ⟨g1,g2,g3⟩:=hform
 obtain ⟨n1,n2,n3,n4,n5,n6,n7,n8⟩:=takeS_n g1
 have hback:=putS_back n4 (a:=c.c.toNat) (n:=c.n) (by omega) (by omega) n7
 have htb:=take_bagOk n4 (a:=c.c.toNat) (n:=c.n) (by omega) (by omega) n7
 rw [n8] at g2 g3
 dsimp only at g2 g3
 generalize hit0 : (elt .slot p.bag c.c.toNat).item = it at *
 generalize hT : p.bag.set c.c.toNat (lessS (elt .slot p.bag c.c.toNat) c.n) = T at *
 have hTl : T.length = 8:=by rw [← hT,List.length_set];exact hp.bag.1
 have hdrop : dropC (placeC w p.x p.y) (placeI p.x p.y) ⟨it,c.n⟩ = ({ placeC w p.x p.y with heaps:=(placeC w p.x p.y).heaps ++ [⟨placeI p.x p.y,⟨it,c.n⟩⟩] },0):=by
   unfold dropC at g2 ⊢
   rw [if_neg (by rw [hK];simp),if_neg (not_not_intro hI)] at g2 ⊢
   by_cases q3 : someB ⟨it,c.n⟩ = false
   · rw [if_pos q3] at g2;simp at g2
   · rw [if_neg q3] at g2 ⊢
     by_cases q4 : 32 ≤ (placeC w p.x p.y).heaps.length
     · rw [if_pos q4] at g2;simp at g2
     · rw [if_neg q4]
 have hdr:=drop_right hK (t:=placeI p.x p.y) (s:=⟨it,c.n⟩) hI
 rw [hdrop] at g3 hdr
 dsimp only at g3 hdr
 rw [g3] at h hcnt ⊢
 obtain ⟨a1,a2,a3,a4,a5⟩:=keep_good h
 generalize hKK : placeC w p.x p.y = K at *
 generalize hII : placeI p.x p.y = I at *
 have hpb:=putS_bagOk (i:=it) (n:=c.n) htb
 have hpbl:=putS_length T it c.n
 have hk1 : keepA w { K with heaps:=K.heaps ++ [⟨I,⟨it,c.n⟩⟩] } { p with bag:=T } = (withP (withCs w (putL w.seed w.chunks { K with heaps:=K.heaps ++ [⟨I,⟨it,c.n⟩⟩] })) (setL w.players { p with bag:=T }),0):=Prod.ext a5 h
 have hs2 : soundB { p with bag:=(putS T it c.n).1 } = true:=soundB_bag hp.sound.1 (by omega) hpb
 obtain ⟨k1,k2,k3,k4,k5,k6,k7⟩:=keep_twice (p1:={ p with bag:=T }) (p2:={ p with bag:=(putS T it c.n).1 }) hp p.x p.y hin hKK hk1 rfl rfl rfl rfl rfl rfl hs2
 rw [a5] at hcnt ⊢
 generalize hn : withP (withCs w (putL w.seed w.chunks { K with heaps:=K.heaps ++ [⟨I,⟨it,c.n⟩⟩] })) (setL w.players { p with bag:=T }) = n at *
 have hkp : keptH I (K.heaps ++ [⟨I,⟨it,c.n⟩⟩]) = K.heaps:=by
   unfold keptH
   rw [List.filter_append,List.filter_eq_self.2 (fun x hx=>by simp [miss,hbare x hx]),List.filter_cons_of_neg (by simp [miss]),List.filter_nil,List.append_nil]
 have hht : hitsH I (K.heaps ++ [⟨I,⟨it,c.n⟩⟩]) = [⟨it,c.n⟩]:=by
   unfold hitsH
   rw [List.filter_append,List.filter_eq_nil_iff.2 (fun x hx=>by simp [hit,hbare x hx]),List.filter_cons_of_pos (by simp [hit]),List.filter_nil];rfl
 have hlift : liftC { K with heaps:=K.heaps ++ [⟨I,⟨it,c.n⟩⟩] } I = (K,[⟨it,c.n⟩]):=by
   unfold liftC
   rw [if_pos hdr]
   dsimp only
   rw [hkp,hht]
 have hpick : pickA I [⟨it,c.n⟩] (K,T,false) = (K,(putS T it c.n).1,true):=by
   unfold pickA
   dsimp only
   rw [hback,if_neg (by omega),decide_eq_true (show (0 : Int) < c.n by omega)]
   rfl
 have hta : takeA n { p with bag:=T } = keepA n K { p with bag:=(putS T it c.n).1 }:=by
   unfold takeA
   dsimp only
   rw [hII,k3,hlift]
   dsimp only
   rw [if_neg (by simp),hpick]
   dsimp only
   rw [if_neg (by simp)]
 have ha : actA n { p with bag:=T } ⟨5,0,0,0,0⟩ = keepA n K { p with bag:=(putS T it c.n).1 }:=(show actA n { p with bag:=T } ⟨5,0,0,0,0⟩ = takeA n { p with bag:=T } from rfl).trans hta
 have hap:=act_apply k2 (show rightD ⟨5,0,0,0,0⟩ = true from rfl) (show ¬ (5 : Int) = 1 by decide) (by rw [ha];exact k4)
 rw [show ({ p with bag:=T } : Player).id = p.id from rfl] at hap
 have hbc:=fun k=>take_count2 (w:=n) (p:={ p with bag:=T }) k2 (by rw [hta];exact k4) k
 rw [hta] at hbc
 rw [hap,ha]
 refine ⟨rfl,k6,⟨_,k5,rfl,rfl⟩,have_ext fun k _=>?_,k7.trans hKK.symm⟩
 have e1:=hbc k
 have e2:=hcnt k
 dsimp only at e1 e2 ⊢
 omega
open Go Go.RowKit Eng
theorem back_pre {w : Wld} {p : Player} {c : Cmd} (hp : Here w p) (hD : rightD c = true) (h1 : ¬ c.dol = 1) (hA : (actA w p c).2 = 0) :
   ∃ r,applyW w p.id c = ((actA w p c).1,0) ∧ RW (actA w p c).1 ∧ playerW (actA w p c).1 p.id = (r,true) ∧ r.id = p.id:=by
 have ha:=act_apply hp hD h1 hA
 have hn:=apply_rw (id:=p.id) (c:=c) (rightW_iff.2 hp.rw)
 rw [ha] at hn
 obtain ⟨r,e,_⟩:=far_player hp.rw p.id c (getK_mem hp.get).1
 rw [ha] at e
 dsimp only at e hn
 have h:=(here_of (id:=p.id) hn (by rw [e])).2
 rw [e] at h
 exact ⟨r,ha,hn,e,h⟩
theorem eqI_self (a : List Int) : eqI a a = true:=decide_eq_true rfl
theorem back_tail {w : Wld} {p : Player} {x y : Int} {U : Wld × Int} (hR : RW w) (hx : 0 ≤ x ∧ x < w.size) (hy : 0 ≤ y ∧ y < w.size) (h : Undone w p x y U) :
   ∃ (m : Wld) (p2 : Player) (K : Chunk) (b1 b2 : Bool) (H : List (El .i64)),U = (m,0) ∧ p2.x = p.x ∧ p2.y = p.y ∧ H.length = 13 ∧
     Api Tryz.prog 29 [wldV m,i64 p.id] (.tup [playerV p2,bol true]) ∧ Api Tryz.prog 35 [wldV w] (.vec .i64 H) ∧ Api Tryz.prog 35 [wldV m] (.vec .i64 H) ∧
     Api Tryz.prog 25 [.vec .i64 H,.vec .i64 H] (bol true) ∧ Api Tryz.prog 31 [wldV w,i64 x,i64 y] (.tup [chunkV K,bol b1]) ∧ Api Tryz.prog 31 [wldV m,i64 x,i64 y] (.tup [chunkV K,bol b2]) ∧
     Api Tryz.prog 32 [chunkV K,chunkV K] (bol true):=by
 obtain ⟨m,e⟩:=U
 obtain ⟨h0,hm,⟨p2,q1,qx,qy⟩,qh,qc⟩:=h
 dsimp only at h0 hm q1 qh qc
 have a1:=wplayer_api m p.id (okW_rw hm)
 rw [q1] at a1
 have a2:=have16_api w hR
 have a3:=have16_api m hm
 rw [qh] at a3
 have a4:=sameInts_api (haveW w) (haveW w) (by rw [show (haveW w).length = 13 from hv_len w (Nat.le_refl 13)];decide)
 rw [eqI_self] at a4
 have a5:=wchunk_api w x y (okW_rw hR)
 have a6:=wchunk_api m x y (okW_rw hm)
 rw [qc] at a6
 have a7:=same_self (chunkW w x y).1 (okC_right (chunk_right hR hx hy))
 exact ⟨m,p2,(chunkW w x y).1,(chunkW w x y).2,(chunkW m x y).2,haveW w,by rw [h0],qx,qy,hv_len w (Nat.le_refl 13),a1,a2,a3,a4,a5,a6,a7⟩
theorem dol2_bd {c : Cmd} (h : rightD c = true) (h2 : c.dol = 2) : (-1 ≤ c.a ∧ c.a ≤ 1) ∧ (-1 ≤ c.b ∧ c.b ≤ 1):=by
 obtain ⟨d,a,b,e,n⟩:=c
 dsimp only at h2 ⊢
 subst h2
 have h' : (rngB (-1) 1 a && (rngB (-1) 1 b && (zeroB e && zeroB n))) = true:=h
 simp only [rngB,Bool.and_eq_true,decide_eq_true_eq] at h'
 omega
open Go Go.RowKit Eng
theorem rback_no (w : Wld) (id : Int) (c : Cmd) (hw : OkW w) (hi : id ≤ 9223372036854775807) (hd : 0 ≤ c.dol ∧ c.dol ≤ 255) (hno : ¬ ((!(greatW w) && rightW w) = true ∧ (playerW w id).2 = true ∧ (applyW w id c).2 = 0)) : Api Tryz.prog 5 [wldV w,dooA id c] (bol true):=by
 have hse:=seen16_api w hw
 have haw:=awake16_api
 have hpl:=wplayer_api w id hw
 have hap:=apply_api w id c hw hi hd
 generalize playerW w id = P at *
 generalize applyW w id c = R at *
 obtain ⟨P1,P2⟩:=P
 obtain ⟨R1,R2⟩:=R
 dsimp only at *
 cases hS : (!(greatW w) && rightW w) with
 | false =>
   rw [hS] at hse
   refine Api.of_fin cfg_ok Tryz.func5 rfl (nt:=232) rfl rfl ?_
   ((try with_reducible refine evCut fun N hN hE hT=>?_);(conv=>whnf))
   repeat' (first|exact trivial|((first|((first|refine hT _ _ ?_|refine hE _ _ _ ?_|refine hN _ _ ?_);clear hN hE hT)|refine kL ?_|(refine ⟨fun hb=>?_,fun hb=>?_⟩<;>(try simp only [nrm] at hb)<;>(try (first|(exfalso;omega)|contradiction|exact kB hb)))|refine kA hse ?_|refine kD hse ?_|refine kA haw ?_|refine kD haw ?_|refine kW cfg_ok ?_|refine kC ?_|refine bdA ?_|refine bd2 ?_|refine bdR ?_|refine bdL ?_)<;>((try with_reducible refine evCut fun N hN hE hT=>?_);(conv=>whnf)))|(refine And.intro ?_ ?_;rotate_left;(conv=>whnf);rotate_right))
   all_goals first|rfl|omega|trace_state
 | true =>
   rw [hS] at hse
   cases P2 with
   | false =>
     skip
     refine Api.of_fin cfg_ok Tryz.func5 rfl (nt:=232) rfl rfl ?_
     ((try with_reducible refine evCut fun N hN hE hT=>?_);(conv=>whnf))
     repeat' (first|exact trivial|((first|((first|refine hT _ _ ?_|refine hE _ _ _ ?_|refine hN _ _ ?_);clear hN hE hT)|refine kL ?_|(refine ⟨fun hb=>?_,fun hb=>?_⟩<;>(try simp only [nrm] at hb)<;>(try (first|(exfalso;omega)|contradiction|exact kB hb)))|refine kA hse ?_|refine kD hse ?_|refine kA haw ?_|refine kD haw ?_|refine kA hpl ?_|refine kD hpl ?_|refine kA hap ?_|refine kD hap ?_|refine kW cfg_ok ?_|refine kC ?_|refine bdA ?_|refine bd2 ?_|refine bdR ?_|refine bdL ?_)<;>((try with_reducible refine evCut fun N hN hE hT=>?_);(conv=>whnf)))|(refine And.intro ?_ ?_;rotate_left;(conv=>whnf);rotate_right))
     all_goals first|rfl|omega|trace_state
   | true =>
     have h0 : ¬ R2 = 0:=fun h=>hno ⟨hS,rfl,h⟩
     clear hno
     refine Api.of_fin cfg_ok Tryz.func5 rfl (nt:=232) rfl rfl ?_
     ((try with_reducible refine evCut fun N hN hE hT=>?_);(conv=>whnf))
     repeat' (first|exact trivial|((first|((first|refine hT _ _ ?_|refine hE _ _ _ ?_|refine hN _ _ ?_);clear hN hE hT)|refine kL ?_|(refine ⟨fun hb=>?_,fun hb=>?_⟩<;>(try simp only [nrm] at hb)<;>(try (first|(exfalso;omega)|contradiction|exact kB hb)))|refine kA hse ?_|refine kD hse ?_|refine kA haw ?_|refine kD haw ?_|refine kA hpl ?_|refine kD hpl ?_|refine kA hap ?_|refine kD hap ?_|refine kW cfg_ok ?_|refine kC ?_|refine bdA ?_|refine bd2 ?_|refine bdR ?_|refine bdL ?_)<;>((try with_reducible refine evCut fun N hN hE hT=>?_);(conv=>whnf)))|(refine And.intro ?_ ?_;rotate_left;(conv=>whnf);rotate_right))
     all_goals first|rfl|omega|trace_state
theorem rback_oth (w : Wld) (p : Player) (c : Cmd) (hw : OkW w) (hg : greatW w = false) (hp : Here w p) (hi : p.id ≤ 9223372036854775807) (hd : 0 ≤ c.dol ∧ c.dol ≤ 255) (hD : rightD c = true) (h1 : ¬ c.dol = 1) (hA : (actA w p c).2 = 0) (d2 : ¬ c.dol = 2) (d4 : ¬ c.dol = 4) (d6 : ¬ c.dol = 6) : Api Tryz.prog 5 [wldV w,dooA p.id c] (bol true):=by
 have hse:=seen16_api w hw
 have haw:=awake16_api
 have hR:=hp.rw
 rw [show (!(greatW w) && rightW w) = true from by rw [hg,rightW_iff.2 hR];rfl] at hse
 obtain ⟨r,ha,hn,hr,hri⟩:=back_pre hp hD h1 hA
 have hpl:=wplayer_api w p.id hw
 rw [here_player hp] at hpl
 have hap:=apply_api w p.id c hw hi hd
 rw [ha] at hap
 have hpn:=wplayer_api (actA w p c).1 p.id (okW_rw hn)
 rw [hr] at hpn
 dsimp only at hpl hap hpn
 clear ha hA hr
 generalize (actA w p c).1 = n at *
 refine Api.of_fin cfg_ok Tryz.func5 rfl (nt:=232) rfl rfl ?_
 ((try with_reducible refine evCut fun N hN hE hT=>?_);(conv=>whnf))
 repeat' (first|exact trivial|((first|((first|refine hT _ _ ?_|refine hE _ _ _ ?_|refine hN _ _ ?_);clear hN hE hT)|refine kL ?_|(refine ⟨fun hb=>?_,fun hb=>?_⟩<;>(try simp only [nrm] at hb)<;>(try (first|(exfalso;omega)|contradiction|exact kB hb)))|refine kA hse ?_|refine kD hse ?_|refine kA haw ?_|refine kD haw ?_|refine kA hpl ?_|refine kD hpl ?_|refine kA hap ?_|refine kD hap ?_|refine kA hpn ?_|refine kD hpn ?_|refine kW cfg_ok ?_|refine kC ?_|refine bdA ?_|refine bd2 ?_|refine bdR ?_|refine bdL ?_)<;>((try with_reducible refine evCut fun N hN hE hT=>?_);(conv=>whnf)))|(refine And.intro ?_ ?_;rotate_left;(conv=>whnf);rotate_right))
 all_goals first|rfl|omega|trace_state
theorem rback_move (w : Wld) (p : Player) (c : Cmd) (hw : OkW w) (hg : greatW w = false) (hp : Here w p) (hi : p.id ≤ 9223372036854775807) (hd : 0 ≤ c.dol ∧ c.dol ≤ 255) (hD : rightD c = true) (h1 : ¬ c.dol = 1) (hA : (actA w p c).2 = 0) (d2 : c.dol = 2) : Api Tryz.prog 5 [wldV w,dooA p.id c] (bol true):=by
 have hse:=seen16_api w hw
 have haw:=awake16_api
 have hR:=hp.rw
 rw [show (!(greatW w) && rightW w) = true from by rw [hg,rightW_iff.2 hR];rfl] at hse
 obtain ⟨r,ha,hn,hr,hri⟩:=back_pre hp hD h1 hA
 have hpl:=wplayer_api w p.id hw
 rw [here_player hp] at hpl
 have hap:=apply_api w p.id c hw hi hd
 rw [ha] at hap
 have hwn:=okW_rw hn
 have hpn:=wplayer_api (actA w p c).1 p.id hwn
 rw [hr] at hpn
 have hb:=(within_iff hR).1 hp.sound.2
 have hsz:=hR.size
 have hab:=dol2_bd hD d2
 have hat:=at_api w p.x p.y hw (by omega) (by omega)
 dsimp only at hpl hap hpn
 by_cases hair : (atW w p.x p.y).1 = 0
 · have hu:=back_tail hR (x:=p.x / 8) (y:=p.y / 8) (by omega) (by omega) (move_back hp hD d2 hA hair (p.x / 8) (p.y / 8))
   have hau:=apply_api (actA w p c).1 p.id { c with a:=-c.a,b:=-c.b } hwn hi hd
   generalize applyW (actA w p c).1 p.id { c with a:=-c.a,b:=-c.b } = U at *
   obtain ⟨m,p2,K,b1,b2,H,rfl,qx,qy,hHl,a1,a2,a3,a4,a5,a6,a7⟩:=hu
   generalize (atW w p.x p.y).1 = A1 at *
   generalize (atW w p.x p.y).2 = A2 at *
   subst hair
   have na : -c.a = 0 - c.a:=(Int.zero_sub _).symm
   have nb : -c.b = 0 - c.b:=(Int.zero_sub _).symm
   rw [na,nb] at hau
   dsimp only at hau
   clear ha hA hr
   generalize (actA w p c).1 = n at *
   refine Api.of_fin cfg_ok Tryz.func5 rfl (nt:=232) rfl rfl ?_
   ((try with_reducible refine evCut fun N hN hE hT=>?_);(conv=>whnf))
   repeat' (first|exact trivial|((first|((first|refine hT _ _ ?_|refine hE _ _ _ ?_|refine hN _ _ ?_);clear hN hE hT)|refine kL ?_|(refine ⟨fun hb=>?_,fun hb=>?_⟩<;>(try simp only [nrm] at hb)<;>(try (first|(exfalso;omega)|contradiction|exact kB hb)))|refine kA hse ?_|refine kD hse ?_|refine kA haw ?_|refine kD haw ?_|refine kA hpl ?_|refine kD hpl ?_|refine kA hap ?_|refine kD hap ?_|refine kA hpn ?_|refine kD hpn ?_|refine kA hat ?_|refine kD hat ?_|refine kA hau ?_|refine kD hau ?_|refine kA a1 ?_|refine kD a1 ?_|refine kA a2 ?_|refine kD a2 ?_|refine kA a3 ?_|refine kD a3 ?_|refine kA a4 ?_|refine kD a4 ?_|refine kA a5 ?_|refine kD a5 ?_|refine kA a6 ?_|refine kD a6 ?_|refine kA a7 ?_|refine kD a7 ?_|refine kW cfg_ok ?_|refine kC ?_|refine bdA ?_|refine bd2 ?_|refine bdR ?_|refine bdL ?_)<;>((try with_reducible refine evCut fun N hN hE hT=>?_);(conv=>whnf)))|(refine And.intro ?_ ?_;rotate_left;(conv=>whnf);rotate_right))
   all_goals first|rfl|omega|trace_state
 · clear ha hA hr
   generalize (atW w p.x p.y).1 = A1 at *
   generalize (atW w p.x p.y).2 = A2 at *
   generalize (actA w p c).1 = n at *
   refine Api.of_fin cfg_ok Tryz.func5 rfl (nt:=232) rfl rfl ?_
   ((try with_reducible refine evCut fun N hN hE hT=>?_);(conv=>whnf))
   repeat' (first|exact trivial|((first|((first|refine hT _ _ ?_|refine hE _ _ _ ?_|refine hN _ _ ?_);clear hN hE hT)|refine kL ?_|(refine ⟨fun hb=>?_,fun hb=>?_⟩<;>(try simp only [nrm] at hb)<;>(try (first|(exfalso;omega)|contradiction|exact kB hb)))|refine kA hse ?_|refine kD hse ?_|refine kA haw ?_|refine kD haw ?_|refine kA hpl ?_|refine kD hpl ?_|refine kA hap ?_|refine kD hap ?_|refine kA hpn ?_|refine kD hpn ?_|refine kA hat ?_|refine kD hat ?_|refine kW cfg_ok ?_|refine kC ?_|refine bdA ?_|refine bd2 ?_|refine bdR ?_|refine bdL ?_)<;>((try with_reducible refine evCut fun N hN hE hT=>?_);(conv=>whnf)))|(refine And.intro ?_ ?_;rotate_left;(conv=>whnf);rotate_right))
   all_goals first|rfl|omega|trace_state
open Go Go.RowKit Eng
theorem rback_place (w : Wld) (p : Player) (c : Cmd) (hw : OkW w) (hg : greatW w = false) (hp : Here w p) (hi : p.id ≤ 9223372036854775807) (hd : 0 ≤ c.dol ∧ c.dol ≤ 255) (hD : rightD c = true) (h1 : ¬ c.dol = 1) (hA : (actA w p c).2 = 0) (d4 : c.dol = 4) : Api Tryz.prog 5 [wldV w,dooA p.id c] (bol true):=by
 have hse:=seen16_api w hw
 have haw:=awake16_api
 have hR:=hp.rw
 rw [show (!(greatW w) && rightW w) = true from by rw [hg,rightW_iff.2 hR];rfl] at hse
 obtain ⟨r,ha,hn,hr,hri⟩:=back_pre hp hD h1 hA
 have hpl:=wplayer_api w p.id hw
 rw [here_player hp] at hpl
 have hap:=apply_api w p.id c hw hi hd
 rw [ha] at hap
 have hwn:=okW_rw hn
 have hpn:=wplayer_api (actA w p c).1 p.id hwn
 rw [hr] at hpn
 have hb:=(within_iff hR).1 hp.sound.2
 have hsz:=hR.size
 obtain ⟨hts,hwi⟩:=place_in (c:=c) (by rw [← actA_4 d4];exact hA)
 obtain ⟨_,_,_,_,n5,n6,_,_⟩:=takeS_n hts
 have hab:=(within_iff hR).1 hwi
 have hlf : (elt .slot p.bag (c.c.toNat + 0)).item = (elt .slot p.bag c.c.toNat).item:=rfl
 dsimp only at hpl hap hpn
 by_cases hleaf : (elt .slot p.bag c.c.toNat).item = 4
 · clear ha hA hr
   generalize (actA w p c).1 = n at *
   refine Api.of_fin cfg_ok Tryz.func5 rfl (nt:=232) rfl rfl ?_
   ((try with_reducible refine evCut fun N hN hE hT=>?_);(conv=>whnf))
   repeat' (first|exact trivial|((first|((first|refine hT _ _ ?_|refine hE _ _ _ ?_|refine hN _ _ ?_);clear hN hE hT)|refine kL ?_|(refine ⟨fun hb=>?_,fun hb=>?_⟩<;>(try simp only [nrm] at hb)<;>(try (first|(exfalso;omega)|contradiction|exact kB hb)))|refine kA hse ?_|refine kD hse ?_|refine kA haw ?_|refine kD haw ?_|refine kA hpl ?_|refine kD hpl ?_|refine kA hap ?_|refine kD hap ?_|refine kA hpn ?_|refine kD hpn ?_|refine kW cfg_ok ?_|refine kC ?_|refine bdA ?_|refine bd2 ?_|refine bdR ?_|refine bdL ?_)<;>((try with_reducible refine evCut fun N hN hE hT=>?_);(conv=>whnf)))|(refine And.intro ?_ ?_;rotate_left;(conv=>whnf);rotate_right))
   all_goals first|rfl|omega|trace_state
 · have hu:=back_tail hR (x:=c.a / 8) (y:=c.b / 8) (by omega) (by omega) (place_back hp hD d4 hA hleaf)
   have hau:=apply_api (actA w p c).1 p.id ⟨3,c.a,c.b,0,0⟩ hwn hi ⟨by dsimp only;omega,by dsimp only;omega⟩
   generalize applyW (actA w p c).1 p.id ⟨3,c.a,c.b,0,0⟩ = U at *
   obtain ⟨m,p2,K,b1,b2,H,rfl,qx,qy,hHl,a1,a2,a3,a4,a5,a6,a7⟩:=hu
   dsimp only at hau
   clear ha hA hr
   generalize (actA w p c).1 = n at *
   refine Api.of_fin cfg_ok Tryz.func5 rfl (nt:=232) rfl rfl ?_
   ((try with_reducible refine evCut fun N hN hE hT=>?_);(conv=>whnf))
   repeat' (first|exact trivial|((first|((first|refine hT _ _ ?_|refine hE _ _ _ ?_|refine hN _ _ ?_);clear hN hE hT)|refine kL ?_|(refine ⟨fun hb=>?_,fun hb=>?_⟩<;>(try simp only [nrm] at hb)<;>(try (first|(exfalso;omega)|contradiction|exact kB hb)))|refine kA hse ?_|refine kD hse ?_|refine kA haw ?_|refine kD haw ?_|refine kA hpl ?_|refine kD hpl ?_|refine kA hap ?_|refine kD hap ?_|refine kA hpn ?_|refine kD hpn ?_|refine kA hau ?_|refine kD hau ?_|refine kA a1 ?_|refine kD a1 ?_|refine kA a2 ?_|refine kD a2 ?_|refine kA a3 ?_|refine kD a3 ?_|refine kA a4 ?_|refine kD a4 ?_|refine kA a5 ?_|refine kD a5 ?_|refine kA a6 ?_|refine kD a6 ?_|refine kA a7 ?_|refine kD a7 ?_|refine kW cfg_ok ?_|refine kC ?_|refine bdA ?_|refine bd2 ?_|refine bdR ?_|refine bdL ?_)<;>((try with_reducible refine evCut fun N hN hE hT=>?_);(conv=>whnf)))|(refine And.intro ?_ ?_;rotate_left;(conv=>whnf);rotate_right))
   all_goals first|rfl|omega|trace_state
open Go Go.RowKit Eng
def bareN (K : Chunk) (I : Int) (k : Nat) : Prop:=∀ j < k,¬ (elt .heap K.heaps j).cell = I
theorem bare_all {K : Chunk} {I : Int} (h : bareN K I K.heaps.length) : ∀ x ∈ K.heaps,¬ x.cell = I:=by
 intro x hx
 obtain ⟨j,hj,rfl⟩:=List.getElem_of_mem hx
 have:=h j hj
 rw [show elt .heap K.heaps j = K.heaps[j] from by unfold elt;rw [List.getElem?_eq_getElem hj];rfl] at this
 exact this
theorem rback_drop (w : Wld) (p : Player) (c : Cmd) (hw : OkW w) (hg : greatW w = false) (hp : Here w p) (hi : p.id ≤ 9223372036854775807) (hd : 0 ≤ c.dol ∧ c.dol ≤ 255) (hD : rightD c = true) (h1 : ¬ c.dol = 1) (hA : (actA w p c).2 = 0) (d6 : c.dol = 6) : Api Tryz.prog 5 [wldV w,dooA p.id c] (bol true):=by
 have hse:=seen16_api w hw
 have haw:=awake16_api
 have hR:=hp.rw
 rw [show (!(greatW w) && rightW w) = true from by rw [hg,rightW_iff.2 hR];rfl] at hse
 obtain ⟨r,ha,hn,hr,hri⟩:=back_pre hp hD h1 hA
 have hpl:=wplayer_api w p.id hw
 rw [here_player hp] at hpl
 have hap:=apply_api w p.id c hw hi hd
 rw [ha] at hap
 have hwn:=okW_rw hn
 have hpn:=wplayer_api (actA w p c).1 p.id hwn
 rw [hr] at hpn
 have hb:=(within_iff hR).1 hp.sound.2
 have hsz:=hR.size
 have hch:=wchunk_api w (p.x / 8) (p.y / 8) hw
 have hKr:=right_heaps (chunk_right hR (x:=p.x / 8) (y:=p.y / 8) (by omega) (by omega))
 have hau:=apply_api (actA w p c).1 p.id ⟨5,0,0,0,0⟩ hwn hi ⟨by decide,by decide⟩
 have hu:=fun (h : bareN (chunkW w (p.x / 8) (p.y / 8)).1 (p.y % 8 * 8 + p.x % 8) (chunkW w (p.x / 8) (p.y / 8)).1.heaps.length)=>back_tail hR (x:=p.x / 8) (y:=p.y / 8) (by omega) (by omega) (drop_back hp d6 hA (bare_all h))
 generalize applyW (actA w p c).1 p.id ⟨5,0,0,0,0⟩ = U at *
 generalize (chunkW w (p.x / 8) (p.y / 8)).2 = b0 at *
 generalize (chunkW w (p.x / 8) (p.y / 8)).1 = K0 at *
 dsimp only at hpl hap hpn
 clear ha hA hr
 generalize (actA w p c).1 = n at *
 refine Api.of_fin cfg_ok Tryz.func5 rfl (nt:=232) rfl rfl ?_
 ((try with_reducible refine evCut fun N hN hE hT=>?_);(conv=>whnf))
 repeat' (first|exact trivial|((first|((first|refine hT _ _ ?_|refine hE _ _ _ ?_|refine hN _ _ ?_);clear hN hE hT)|refine kL ?_|(refine ⟨fun hb=>?_,fun hb=>?_⟩<;>(try simp only [nrm] at hb)<;>(try (first|(exfalso;omega)|contradiction|exact kB hb)))|refine kA hse ?_|refine kD hse ?_|refine kA haw ?_|refine kD haw ?_|refine kA hpl ?_|refine kD hpl ?_|refine kA hap ?_|refine kD hap ?_|refine kA hpn ?_|refine kD hpn ?_|refine kA hch ?_|refine kD hch ?_|refine kW cfg_ok ?_|refine kC ?_|refine bdA ?_|refine bd2 ?_|refine bdR ?_|refine bdL ?_)<;>((try with_reducible refine evCut fun N hN hE hT=>?_);(conv=>whnf)))|(refine And.intro ?_ ?_;rotate_left;(conv=>whnf);rotate_right))
 refine Runs.loopQ cfg_ok (σ:=Nat) [2,3,5,7,9,11,12,123,124,125] (fun k=>[.ptr 4 0,.ptr 6 0,.ptr 10 0,.ptr 14 0,.ptr 18 0,.ptr 22 0,.ptr 24 0,.vec .heap K0.heaps,i64 K0.heaps.length,i64 k]) (fun _=>[(4,.box (wldC w)),(6,.box [i64 p.id,.lit (.int .u8 c.dol),i64 c.a,i64 c.b,i64 c.c,i64 c.n]),(10,.box (playerC p)),(14,.box (wldC n)),(18,.box (playerC r)),(22,.box [.lit (.int .u8 c.dol),i64 c.a,i64 c.b,i64 c.c,i64 c.n]),(24,.box [.lit (.int .u8 c.dol),i64 c.a,i64 c.b,i64 c.c,i64 c.n])]) (fun k=>k ≤ K0.heaps.length ∧ bareN K0 (p.y % 8 * 8 + p.x % 8) k) (fun k=>K0.heaps.length - k) 0 ⟨by omega,fun j hj=>by omega⟩ ?_ ?_
 · conv=>whnf
   repeat' (first|exact trivial|((first|((first|refine hT _ _ ?_|refine hE _ _ _ ?_|refine hN _ _ ?_);clear hN hE hT)|refine kL ?_|(refine ⟨fun hb=>?_,fun hb=>?_⟩<;>(try simp only [nrm] at hb)<;>(try (first|(exfalso;omega)|contradiction|exact kB hb)))|refine kW cfg_ok ?_|refine kC ?_|refine bdA ?_|refine bd2 ?_|refine bdR ?_|refine bdL ?_)<;>((try with_reducible refine evCut fun N hN hE hT=>?_);(conv=>whnf)))|(refine And.intro ?_ ?_;rotate_left;(conv=>whnf);rotate_right))
   all_goals first|rfl|omega|trace_state
 · rintro k ⟨hk,hbare⟩ N hN hE hT
   by_cases hlt : k < K0.heaps.length
   · by_cases hc : (elt .heap K0.heaps ((k : Nat) : Int).toNat).cell = p.y % 8 * 8 + p.x % 8
     · clear hu
       conv=>whnf
       repeat' (first|exact trivial|((first|((first|refine hT _ _ ?_|refine hE _ _ _ ?_|refine hN _ _ ?_);clear hN hE hT)|refine kL ?_|(refine ⟨fun hb=>?_,fun hb=>?_⟩<;>(try simp only [nrm] at hb)<;>(try (first|(exfalso;omega)|contradiction|exact kB hb)))|refine kA haw ?_|refine kD haw ?_|refine kW cfg_ok ?_|refine kC ?_|refine bdA ?_|refine bd2 ?_|refine bdR ?_|refine bdL ?_)<;>((try with_reducible refine evCut fun N hN hE hT=>?_);(conv=>whnf)))|(refine And.intro ?_ ?_;rotate_left;(conv=>whnf);rotate_right))
       all_goals first|rfl|omega|trace_state
     · clear hu
       conv=>whnf
       repeat' (first|exact trivial|((first|((first|refine hT _ _ ?_|refine hE _ _ _ ?_|refine hN _ _ ?_);clear hN hE hT)|refine kL ?_|(refine ⟨fun hb=>?_,fun hb=>?_⟩<;>(try simp only [nrm] at hb)<;>(try (first|(exfalso;omega)|contradiction|exact kB hb)))|refine kW cfg_ok ?_|refine kC ?_|refine bdA ?_|refine bd2 ?_|refine bdR ?_|refine bdL ?_)<;>((try with_reducible refine evCut fun N hN hE hT=>?_);(conv=>whnf)))|(refine And.intro ?_ ?_;rotate_left;(conv=>whnf);rotate_right))
       refine .to (k + 1) ⟨hlt,fun j hj=>?_⟩ (by omega) ?_
       · by_cases hjk : j = k
         · rw [hjk];rw [Int.toNat_natCast] at hc;exact hc
         · exact hbare j (by omega)
       conv=>whnf
       repeat' (first|exact trivial|((first|((first|refine hT _ _ ?_|refine hE _ _ _ ?_|refine hN _ _ ?_);clear hN hE hT)|refine kL ?_|(refine ⟨fun hb=>?_,fun hb=>?_⟩<;>(try simp only [nrm] at hb)<;>(try (first|(exfalso;omega)|contradiction|exact kB hb)))|refine kW cfg_ok ?_|refine kC ?_|refine bdA ?_|refine bd2 ?_|refine bdR ?_|refine bdL ?_)<;>((try with_reducible refine evCut fun N hN hE hT=>?_);(conv=>whnf)))|(refine And.intro ?_ ?_;rotate_left;(conv=>whnf);rotate_right))
       all_goals first|rfl|omega|trace_state
   · obtain rfl : k = K0.heaps.length:=by omega
     obtain ⟨m,p2,K,b1,b2,H,rfl,qx,qy,hHl,a1,a2,a3,a4,a5,a6,a7⟩:=hu hbare
     dsimp only at hau
     clear hch
     conv=>whnf
     repeat' (first|exact trivial|((first|((first|refine hT _ _ ?_|refine hE _ _ _ ?_|refine hN _ _ ?_);clear hN hE hT)|refine kL ?_|(refine ⟨fun hb=>?_,fun hb=>?_⟩<;>(try simp only [nrm] at hb)<;>(try (first|(exfalso;omega)|contradiction|exact kB hb)))|refine kA haw ?_|refine kD haw ?_|refine kA hau ?_|refine kD hau ?_|refine kA a1 ?_|refine kD a1 ?_|refine kA a2 ?_|refine kD a2 ?_|refine kA a3 ?_|refine kD a3 ?_|refine kA a4 ?_|refine kD a4 ?_|refine kA a5 ?_|refine kD a5 ?_|refine kA a6 ?_|refine kD a6 ?_|refine kA a7 ?_|refine kD a7 ?_|refine kW cfg_ok ?_|refine kC ?_|refine bdA ?_|refine bd2 ?_|refine bdR ?_|refine bdL ?_)<;>((try with_reducible refine evCut fun N hN hE hT=>?_);(conv=>whnf)))|(refine And.intro ?_ ?_;rotate_left;(conv=>whnf);rotate_right))
     all_goals first|rfl|omega|trace_state
open Go Go.RowKit Eng
theorem rback_api (w : Wld) (id : Int) (c : Cmd) (hw : OkW w) (hi : id ≤ 9223372036854775807) (hd : 0 ≤ c.dol ∧ c.dol ≤ 255) : Api Tryz.prog 5 [wldV w,dooA id c] (bol true):=by
 by_cases hgo : (!(greatW w) && rightW w) = true ∧ (playerW w id).2 = true ∧ (applyW w id c).2 = 0
 · obtain ⟨hS,hP,hE⟩:=hgo
   rw [Bool.and_eq_true] at hS
   have hg : greatW w = false:=by simpa using hS.1
   rcases apply_cases (rightW_iff.1 hS.2) id c with ⟨h,_⟩|⟨h,_⟩|⟨_,h1,hD,hp,hid,hA,_⟩
   · exact absurd hE h
   · rw [hP] at h;cases h
   · generalize (playerW w id).1 = p at *
     subst hid
     by_cases d2 : c.dol = 2
     · exact rback_move w p c hw hg hp hi hd hD h1 hA d2
     by_cases d4 : c.dol = 4
     · exact rback_place w p c hw hg hp hi hd hD h1 hA d4
     by_cases d6 : c.dol = 6
     · exact rback_drop w p c hw hg hp hi hd hD h1 hA d6
     exact rback_oth w p c hw hg hp hi hd hD h1 hA d2 d4 d6
 · exact rback_no w id c hw hi hd hgo
end Go.Proofs.YtkojlembanldcaaGreat
