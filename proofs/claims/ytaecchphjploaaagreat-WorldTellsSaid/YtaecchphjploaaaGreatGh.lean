/- homesteadref13.Bytes, Read. -/
import Derived.Test.YtaecchphjploaaaGreatGp
import Derived.Test.YtaecchphjploaaaGreatGq
import Derived.Test.YtaecchphjploaaaGreatGs
import Derived.Test.YtaecchphjploaaaGreatGk
import Derived.Test.YtaecchphjploaaaGreatGy
import Derived.Test.YtaecchphjploaaaGreatGz
set_option linter.unusedSimpArgs false
set_option linter.unusedVariables false
set_option maxRecDepth 100000
set_option maxHeartbeats 16000000
namespace Go.Proofs.YtaecchphjploaaaGreat
open Go Go.RowKit Eng
theorem chunk_okC {w : Wld} (hR : RW w) {x y : Int} (h : (chunkW w x y).2 = true) : OkC (chunkW w x y).1:=by
 by_cases hin : 0 ≤ x ∧ x < w.size ∧ 0 ≤ y ∧ y < w.size
 · exact okC_right (chunk_right hR ⟨hin.1,hin.2.1⟩ ⟨hin.2.2.1,hin.2.2.2⟩)
 · rw [chunkW_out (.inr hin)] at h;cases h
theorem okW_right {w : Wld} (h : rightW w = true) : OkW w:=okW_rw (rightW_iff.1 h)
open Go Go.RowKit Eng
def offM (b : List Int) (w : Int) (s : Rd) : List Slot × Rd:=if 0 ≤ w - 1 then manyR (slotR b) 8 s else ([],s)
def plM (b : List Int) (s : Rd) : Player × Rd:=
 let id:=numI b 1073741824 s
 let x:=numI b 1000 id.2
 let y:=numI b 1000 x.2
 let bag:=manyR (slotR b) 8 y.2
 let w:=numI b 1073741825 bag.2
 let ag:=numI b 1 w.2
 let off:=offM b w.1 ag.2
 (⟨id.1,x.1,y.1,bag.1,w.1 - 1,off.1,decide (ag.1 = 1)⟩,off.2)
theorem slots_rel (b : List Int) : ∀ n,Rel (manyR (slotR b) n) (allR (slotR b) n)
 | 0=>⟨fun _ _=>rfl,fun _ h=>h⟩
 | n + 1=>by
   have ih:=slots_rel b n
   refine ⟨fun s hb=>?_,fun s hb=>?_⟩
   · unfold manyR at hb ⊢
     unfold allR
     by_cases hs : s.bad = true
     · rw [if_pos hs] at hb
       rw [hs] at hb;cases hb
     · rw [if_neg hs] at hb
       rw [if_neg hs,ih.fine _ hb]
   · unfold manyR at hb
     unfold allR
     by_cases hs : s.bad = true
     · exact all_stays2 (fun s h=>slotR_stays h) n _ (slotR_stays hs)
     · rw [if_neg hs] at hb
       exact ih.bad _ hb
theorem offM_rel (b : List Int) (w : Int) : Rel (offM b w) (offR b w):=by
 have h:=slots_rel b 8
 refine ⟨fun s hb=>?_,fun s hb=>?_⟩
 · unfold offM at hb ⊢
   unfold offR
   split
   · rename_i hc;rw [if_pos hc] at hb;exact h.fine s hb
   · rfl
 · unfold offM at hb
   unfold offR
   split
   · rename_i hc;rw [if_pos hc] at hb;exact h.bad s hb
   · rename_i hc;rw [if_neg hc] at hb;exact hb
theorem off_stays2 {b : List Int} {w : Int} {s : Rd} (h : s.bad = true) : (offR b w s).2.bad = true:=by
 unfold offR
 split
 · exact all_stays2 (fun s h=>slotR_stays h) 8 _ h
 · exact h
theorem offM_stays {b : List Int} {w : Int} {s : Rd} (h : s.bad = true) : (offM b w s).2.bad = true:=by
 unfold offM
 split
 · rw [many_stays 8 s h];exact h
 · exact h
theorem plM_rel (b : List Int) : Rel (plM b) (plR b):=by
 have hs:=slots_rel b 8
 refine ⟨fun s hb=>?_,fun s hb=>?_⟩
 · have hb1 : (manyR (slotR b) 8 (numI b 1000 (numI b 1000 (numI b 1073741824 s).2).2).2).2.bad = false:=by
     cases hx : (manyR (slotR b) 8 (numI b 1000 (numI b 1000 (numI b 1073741824 s).2).2).2).2.bad with
     | false=>rfl
     | true =>
       have h3 : (plM b s).2.bad = true:=offM_stays (numI_stays (numI_stays hx))
       rw [h3] at hb;cases hb
   have e1:=hs.fine _ hb1
   have e2:=(offM_rel b (numI b 1073741825 (manyR (slotR b) 8 (numI b 1000 (numI b 1000 (numI b 1073741824 s).2).2).2).2).1).fine _ hb
   unfold plM plR
   dsimp only
   rw [e1] at e2 ⊢
   rw [e2]
 · cases hx : (manyR (slotR b) 8 (numI b 1000 (numI b 1000 (numI b 1073741824 s).2).2).2).2.bad with
   | true=>exact off_stays2 (numI_stays (numI_stays (hs.bad _ hx)))
   | false =>
     have e1:=hs.fine _ hx
     have h2:=(offM_rel b (numI b 1073741825 (manyR (slotR b) 8 (numI b 1000 (numI b 1000 (numI b 1073741824 s).2).2).2).2).1).bad _ hb
     rw [e1] at h2
     exact h2
def wrM (b : List Int) : WrK b:=
 let sz:=numI b 16 ⟨0,false⟩
 let sd:=numI b B64 sz.2
 let tk:=numI b B40 sd.2
 let nc:=numI b 256 tk.2
 let cs:=manyR (chunkBR b 5000) nc.1.toNat nc.2
 let np:=numI b 32 cs.2
 let ps:=manyR (plM b) np.1.toNat np.2
 ⟨sz,sd,tk,nc,cs,np,ps⟩
def wldM (b : List Int) : Wld:=⟨(wrM b).sz.1,(wrM b).sd.1,(wrM b).tk.1,(wrM b).cs.1,(wrM b).ps.1⟩
structure RefWaysW (b : List Int) (R : Wld × Int) : Prop where
 w1 : (wrM b).ps.2.bad = true → R = (zeroW,113)
 w2 : ¬ (wrM b).ps.2.pos = b.length → R = (zeroW,113)
 w3 : rightW (wldM b) = false → R = (zeroW,113)
 w4 : (wrM b).ps.2.bad = false → (wrM b).ps.2.pos = b.length → rightW (wldM b) = true → R = (wldM b,0)
theorem refWaysW (b : List Int) : RefWaysW b (readW b):=by
 have hr:=many_rel (plM_rel b) (wrM b).np.1.toNat
 cases hx : (wrM b).ps.2.bad with
 | true =>
   have h1:=hr.bad (wrM b).np.2 hx
   have e : readW b = (zeroW,113):=if_pos (.inl h1)
   exact ⟨fun _=>e,fun _=>e,fun _=>e,fun h=>(by cases h.symm.trans hx)⟩
 | false =>
   have h1:=hr.fine (wrM b).np.2 hx
   have e1 : (wrM b).ps = (wrK b).ps:=h1
   have e2 : wldM b = wldK b:=by
     show (⟨_,_,_,_,(wrM b).ps.1⟩ : Wld) = _
     rw [e1];rfl
   refine ⟨fun h=>(by cases h.symm.trans hx),fun h=>if_pos (.inr (.inl (by rw [← e1];exact h))),fun h=>if_pos (.inr (.inr (by rw [← e2];exact h))),fun _ h3 h4=>?_⟩
   rw [e2]
   refine if_neg ?_
   rintro (h|h|h)
   · rw [← e1,hx] at h;cases h
   · rw [← e1] at h;exact h h3
   · rw [← e2,h4] at h;cases h
theorem many_pos {α : Type} {b : List Int} {f : Rd → α × Rd} (h : ∀ s,s.pos ≤ b.length → (f s).2.pos ≤ b.length) (n : Nat) (s : Rd) (hp : s.pos ≤ b.length) : (manyR f n s).2.pos ≤ b.length:=(many_inv (p:=fun _=>True) (fun s hs=>⟨trivial,h s hs⟩) n s hp).2.2
theorem offM_pos {b : List Int} (h8 : okU8 b) {w : Int} {s : Rd} (hp : s.pos ≤ b.length) : (offM b w s).2.pos ≤ b.length:=by
 unfold offM
 split
 · exact many_pos (fun s hs=>slotR_pos h8 hs) 8 _ hp
 · exact hp
theorem plM_pos {b : List Int} (h8 : okU8 b) {s : Rd} (hp : s.pos ≤ b.length) : (plM b s).2.pos ≤ b.length:=offM_pos h8 (numI_pos h8 (numI_pos h8 (many_pos (fun s hs=>slotR_pos h8 hs) 8 _ (numI_pos h8 (numI_pos h8 (numI_pos h8 hp))))))
theorem plM_ok {b : List Int} {s : Rd} : OkP (plM b s).1:=by
 have hA : ∀ t : Rd,(manyR (slotR b) 8 t).1.length ≤ 8 ∧ ∀ x ∈ (manyR (slotR b) 8 t).1,okSlot x:=fun t=>many_mem (f:=slotR b) (p:=okSlot) (fun s=>slotR_bd.1) 8 t
 have hO : ∀ (w : Int) (t : Rd),(offM b w t).1.length ≤ 8 ∧ ∀ x ∈ (offM b w t).1,okSlot x:=fun w t=>by
   unfold offM
   split
   · exact hA t
   · exact ⟨Nat.zero_le _,fun x hx=>by cases hx⟩
 refine ⟨(hA _).2,(hO _ _).2,?_,?_⟩
 · show (manyR (slotR b) 8 _).1.length * 16 ≤ _
   have:=(hA (numI b 1000 (numI b 1000 (numI b 1073741824 s).2).2).2).1
   omega
 · show (offM b _ _).1.length * 16 ≤ _
   have:=(hO (numI b 1073741825 (manyR (slotR b) 8 (numI b 1000 (numI b 1000 (numI b 1073741824 s).2).2).2).2).1 (numI b 1 (numI b 1073741825 (manyR (slotR b) 8 (numI b 1000 (numI b 1000 (numI b 1073741824 s).2).2).2).2).2).2).1
   omega
structure WrOkM (b : List Int) : Prop where
 p1 : (wrM b).sz.2.pos ≤ b.length
 p2 : (wrM b).sd.2.pos ≤ b.length
 p3 : (wrM b).tk.2.pos ≤ b.length
 p4 : (wrM b).nc.2.pos ≤ b.length
 p5 : (wrM b).cs.2.pos ≤ b.length
 p6 : (wrM b).np.2.pos ≤ b.length
 nc : 0 ≤ (wrM b).nc.1 ∧ (wrM b).nc.1 ≤ 256
 np : 0 ≤ (wrM b).np.1 ∧ (wrM b).np.1 ≤ 32
 ok : OkW (wldM b)
theorem wrOkM {b : List Int} (h8 : okU8 b) : WrOkM b:=by
 have p1 : (wrM b).sz.2.pos ≤ b.length:=numI_pos h8 (Nat.zero_le _)
 have p2 : (wrM b).sd.2.pos ≤ b.length:=numI_pos h8 p1
 have p3 : (wrM b).tk.2.pos ≤ b.length:=numI_pos h8 p2
 have p4 : (wrM b).nc.2.pos ≤ b.length:=numI_pos h8 p3
 have nc : 0 ≤ (wrM b).nc.1 ∧ (wrM b).nc.1 ≤ (256 : Nat):=numI_le
 have np : 0 ≤ (wrM b).np.1 ∧ (wrM b).np.1 ≤ (32 : Nat):=numI_le
 have hcs:=many_inv (f:=chunkBR b 5000) (p:=fun c=>OkC c ∧ FitC c) (fun s hs=>⟨chunkBR_ok h8 hs,chunkBR_pos h8 hs⟩) (wrM b).nc.1.toNat (wrM b).nc.2 p4
 have p5 : (wrM b).cs.2.pos ≤ b.length:=hcs.2.2
 have p6 : (wrM b).np.2.pos ≤ b.length:=numI_pos h8 p5
 have hps:=many_inv (f:=plM b) (p:=OkP) (fun s hs=>⟨plM_ok,plM_pos h8 hs⟩) (wrM b).np.1.toNat (wrM b).np.2 p6
 refine ⟨p1,p2,p3,p4,p5,p6,nc,np,⟨fun c hc=>(hcs.2.1 c hc).1,fun c hc=>(hcs.2.1 c hc).2,hps.2.1,?_,?_⟩⟩
 · show (manyR (chunkBR b 5000) (wrM b).nc.1.toNat (wrM b).nc.2).1.length * 88 ≤ _
   omega
 · show (manyR (plM b) (wrM b).np.1.toNat (wrM b).np.2).1.length * 88 ≤ _
   omega
open Go Go.RowKit Eng
theorem r01blob_ev (a B : List (El .u8)) (n : Nat) (hn : n = a.length) (hl : a.length + B.length ≤ 10000000000) : Ev1 Tryz.prog 83 [.own .u8 1 0 n none,.vec .u8 B] [(1,.row .u8 a)] (.own .u8 390001 0 (n + (uintL B.length ++ B).length) none) [(390001,.row .u8 (a ++ (uintL B.length ++ B)))]:=by
 subst hn
 have u1:=r01uint_ev a _ (B.length : Int) rfl (by omega) (by omega) (by omega)
 rw [Int.toNat_natCast] at u1
 have lu:=uintL_len B.length
 have u2:=r01beh_ev (a ++ uintL B.length) B (a.length + (uintL B.length).length) (by rw [List.length_append]) (by rw [List.length_append];omega)
 generalize uintL B.length = U at *
 refine Ev1.of_fin cfg_ok Tryz.func83 rfl (nt:=10) rfl rfl rfl ?_
 ((repeat (first|(with_reducible refine evCut fun N hN hE hT=>?_)|(with_reducible refine evBlk fun N hN hE hT=>?_)));(try with_reducible refine evCnd fun X Y hX hY=>?_);(conv=>whnf))
 repeat' (first|exact trivial|((first|((first|refine hT _ _ ?_|refine hE _ _ _ ?_|refine hN _ _ ?_);clear hN hE hT)|((first|refine hX ?_|refine hY ?_);clear hX hY)|refine kL ?_|(refine ⟨fun hb=>?_,fun hb=>?_⟩<;>(try simp only [nrm] at hb)<;>(try (first|(exfalso;omega)|contradiction|exact kB hb)))|refine kE u1 [(1,1),(390001,350001)] rfl ?_ (hrd:=⟨rfl,trivial⟩)|refine kF u1 [(1,1),(390001,350001)] rfl ?_ (hrd:=⟨rfl,trivial⟩)|refine kE u2 [(1,350001),(390001,350003)] rfl ?_ (hrd:=⟨rfl,trivial⟩)|refine kF u2 [(1,350001),(390001,350003)] rfl ?_ (hrd:=⟨rfl,trivial⟩)|refine kW cfg_ok ?_|refine kC ?_|refine bdA ?_|refine bd2 ?_|refine bdR ?_|refine bdL ?_)<;>((repeat (first|(with_reducible refine evCut fun N hN hE hT=>?_)|(with_reducible refine evBlk fun N hN hE hT=>?_)));(try with_reducible refine evCnd fun X Y hX hY=>?_);(conv=>whnf)))|(refine And.intro ?_ ?_;rotate_left;(conv=>whnf);rotate_right))
 all_goals first|rfl|(simp only [List.length_append];omega)|(rw [List.take_of_length_le (by simp only [List.length_append];omega),List.append_assoc])|trace_state
def okN1 (s : Slot) : Prop:=(0 ≤ s.item ∧ s.item ≤ 255) ∧ 0 ≤ s.n ∧ s.n ≤ 1000
theorem r13slots_ev (a : List (El .u8)) (l : List (El .slot)) (n : Nat) (hn : n = a.length) (ha : a.length ≤ 10000000000) (hl : l.length ≤ 1000) (hok : ∀ s ∈ l,okN1 s) : Ev1 Tryz.prog 84 [.own .u8 1 0 n none,.vec .slot l] [(1,.row .u8 a)] (.own .u8 390001 0 (n + (l.flatMap slotL).length) none) [(390001,.row .u8 (a ++ l.flatMap slotL))]:=by
 subst hn
 refine Ev1.of_fin cfg_ok Tryz.func84 rfl (nt:=27) rfl rfl rfl ?_
 ((repeat (first|(with_reducible refine evCut fun N hN hE hT=>?_)|(with_reducible refine evBlk fun N hN hE hT=>?_)));(try with_reducible refine evCnd fun X Y hX hY=>?_);(conv=>whnf))
 repeat' (first|exact trivial|((first|((first|refine hT _ _ ?_|refine hE _ _ _ ?_|refine hN _ _ ?_);clear hN hE hT)|((first|refine hX ?_|refine hY ?_);clear hX hY)|refine kL ?_|(refine ⟨fun hb=>?_,fun hb=>?_⟩<;>(try simp only [nrm] at hb)<;>(try (first|(exfalso;omega)|contradiction|exact kB hb)))|refine kW cfg_ok ?_|refine kC ?_|refine bdA ?_|refine bd2 ?_|refine bdR ?_|refine bdL ?_)<;>((repeat (first|(with_reducible refine evCut fun N hN hE hT=>?_)|(with_reducible refine evBlk fun N hN hE hT=>?_)));(try with_reducible refine evCnd fun X Y hX hY=>?_);(conv=>whnf)))|(refine And.intro ?_ ?_;rotate_left;(conv=>whnf);rotate_right))
 refine Runs.loopS cfg_ok (σ:=Nat × List Int) [0,1,5] (fun (k,V)=>[.own .u8 350101 0 V.length none,.vec .slot l,i64 k]) (fun (_,V)=>[(350101,.row .u8 V)]) (fun (k,V)=>k ≤ l.length ∧ V = a ++ (l.take k).flatMap slotL ∧ V.length ≤ a.length + k * 20) (fun (k,_)=>l.length - k) (0,a) ⟨by omega,by simp,by omega⟩ ?_ ?_
 · conv=>whnf
   repeat' (first|exact trivial|((first|((first|refine hT _ _ ?_|refine hE _ _ _ ?_|refine hN _ _ ?_);clear hN hE hT)|((first|refine hX ?_|refine hY ?_);clear hX hY)|refine kL ?_|(refine ⟨fun hb=>?_,fun hb=>?_⟩<;>(try simp only [nrm] at hb)<;>(try (first|(exfalso;omega)|contradiction|exact kB hb)))|refine kW cfg_ok ?_|refine kC ?_|refine bdA ?_|refine bd2 ?_|refine bdR ?_|refine bdL ?_)<;>((repeat (first|(with_reducible refine evCut fun N hN hE hT=>?_)|(with_reducible refine evBlk fun N hN hE hT=>?_)));(try with_reducible refine evCnd fun X Y hX hY=>?_);(conv=>whnf)))|(refine And.intro ?_ ?_;rotate_left;(conv=>whnf);rotate_right))
   all_goals first|rfl|(simp;done)|exact List.take_length|trace_state
 · rintro ⟨k,V⟩ ⟨hk,hV,hVl⟩
   try dsimp only at hk hV hVl
   by_cases hlt : k < l.length
   · obtain ⟨⟨s1,s2⟩,s3,s4⟩:=hok _ (elt_mem (t:=.slot) hlt)
     have l1:=uintL_len (elt .slot l k).item.toNat
     have l2:=uintL_len (elt .slot l k).n.toNat
     have q1 : (elt .slot l (k : Int).toNat).item = (elt .slot l k).item:=rfl
     have q2 : (elt .slot l (k : Int).toNat).n = (elt .slot l k).n:=rfl
     have u1:=r01uint_ev V _ (elt .slot l k).item rfl s1 (by omega) (by omega)
     have u2:=r01uint_ev (V ++ uintL (elt .slot l k).item.toNat) _ (elt .slot l k).n (by rw [List.length_append]) s3 (by omega) (by rw [List.length_append];omega)
     have hT2 : V ++ uintL (elt .slot l k).item.toNat ++ uintL (elt .slot l k).n.toNat = a ++ (l.take (k + 1)).flatMap slotL:=by
       rw [flatMap_take (t:=.slot) slotL hlt,hV]
       unfold slotL
       rw [putY2]
       simp only [List.append_assoc]
     have hT3 : (V ++ uintL (elt .slot l k).item.toNat ++ uintL (elt .slot l k).n.toNat).length ≤ a.length + (k + 1) * 20:=by
       simp only [List.length_append];omega
     conv=>whnf
     repeat' (first|exact trivial|((first|((first|refine hT _ _ ?_|refine hE _ _ _ ?_|refine hN _ _ ?_);clear hN hE hT)|((first|refine hX ?_|refine hY ?_);clear hX hY)|refine kL ?_|(refine ⟨fun hb=>?_,fun hb=>?_⟩<;>(try simp only [nrm] at hb)<;>(try (first|(exfalso;omega)|contradiction|exact kB hb)))|refine kE u1 [(1,350101),(390001,350103)] rfl ?_|refine kF u1 [(1,350101),(390001,350103)] rfl ?_|refine kE u2 [(1,350103),(390001,350101)] rfl ?_|refine kF u2 [(1,350103),(390001,350101)] rfl ?_|refine kW cfg_ok ?_|refine kC ?_|refine bdA ?_|refine bd2 ?_|refine bdR ?_|refine bdL ?_)<;>((repeat (first|(with_reducible refine evCut fun N hN hE hT=>?_)|(with_reducible refine evBlk fun N hN hE hT=>?_)));(try with_reducible refine evCnd fun X Y hX hY=>?_);(conv=>whnf)))|(refine And.intro ?_ ?_;rotate_left;(conv=>whnf);rotate_right))
     refine .to (k + 1,_) ⟨hlt,hT2,hT3⟩ (by first|omega|(dsimp only;omega)) ?_
     conv=>whnf
     repeat' (first|exact trivial|((first|((first|refine hT _ _ ?_|refine hE _ _ _ ?_|refine hN _ _ ?_);clear hN hE hT)|((first|refine hX ?_|refine hY ?_);clear hX hY)|refine kL ?_|(refine ⟨fun hb=>?_,fun hb=>?_⟩<;>(try simp only [nrm] at hb)<;>(try (first|(exfalso;omega)|contradiction|exact kB hb)))|refine kW cfg_ok ?_|refine kC ?_|refine bdA ?_|refine bd2 ?_|refine bdR ?_|refine bdL ?_)<;>((repeat (first|(with_reducible refine evCut fun N hN hE hT=>?_)|(with_reducible refine evBlk fun N hN hE hT=>?_)));(try with_reducible refine evCnd fun X Y hX hY=>?_);(conv=>whnf)))|(refine And.intro ?_ ?_;rotate_left;(conv=>whnf);rotate_right))
     all_goals first|rfl|(simp only [List.length_append];done)|(simp only [List.length_append,List.take_length];done)|(refine List.take_of_length_le ?_;simp only [List.length_append];omega)|trace_state
   · obtain rfl : k = l.length:=by omega
     rw [List.take_length] at hV
     subst hV
     conv=>whnf
     repeat' (first|exact trivial|((first|((first|refine hT _ _ ?_|refine hE _ _ _ ?_|refine hN _ _ ?_);clear hN hE hT)|((first|refine hX ?_|refine hY ?_);clear hX hY)|refine kL ?_|(refine ⟨fun hb=>?_,fun hb=>?_⟩<;>(try simp only [nrm] at hb)<;>(try (first|(exfalso;omega)|contradiction|exact kB hb)))|refine kW cfg_ok ?_|refine kC ?_|refine bdA ?_|refine bd2 ?_|refine bdR ?_|refine bdL ?_)<;>((repeat (first|(with_reducible refine evCut fun N hN hE hT=>?_)|(with_reducible refine evBlk fun N hN hE hT=>?_)));(try with_reducible refine evCnd fun X Y hX hY=>?_);(conv=>whnf)))|(refine And.intro ?_ ?_;rotate_left;(conv=>whnf);rotate_right))
     all_goals first|rfl|(simp only [List.length_append];done)|exact List.take_length|(refine List.take_of_length_le ?_;simp only [List.length_append];omega)|trace_state
theorem r13num_ev (b : List (El .u8)) (s : Rd) (most : Nat) (hb8 : okU8 b) (hl : b.length ≤ 1000000000000) (hp : s.pos ≤ b.length) : Ev1 Tryz.prog 89 [.ptr 0 0,.lit (.int .u64 most)] [(0,.box (rdC b s))] (.lit (.int .u64 (numI b most s).1)) [(0,.box (rdC b (numI b most s).2))]:=by
 have hu:=r01getU_api b s.pos hb8 hl hp _ rfl
 obtain ⟨h1,h2⟩:=guN_le hb8 hp
 cases hs : s.bad with
 | true =>
   rw [numI_bad hs]
   generalize guN b s.pos = G at *
   obtain ⟨n,f,e⟩:=G
   obtain ⟨p,bd⟩:=s
   replace hs : bd = true:=hs
   subst hs
   dsimp only at *
   refine Ev1.of_fin cfg_ok Tryz.func89 rfl (nt:=40) rfl rfl rfl ?_
   ((repeat (first|(with_reducible refine evCut fun N hN hE hT=>?_)|(with_reducible refine evBlk fun N hN hE hT=>?_)));(try with_reducible refine evCnd fun X Y hX hY=>?_);(conv=>whnf))
   repeat' (first|exact trivial|((first|((first|refine hT _ _ ?_|refine hE _ _ _ ?_|refine hN _ _ ?_);clear hN hE hT)|((first|refine hX ?_|refine hY ?_);clear hX hY)|refine kL ?_|(refine ⟨fun hb=>?_,fun hb=>?_⟩<;>(try simp only [nrm] at hb)<;>(try (first|(exfalso;omega)|contradiction|exact kB hb)))|refine kA hu ?_|refine kD hu ?_|refine kW cfg_ok ?_|refine kC ?_|refine bdA ?_|refine bd2 ?_|refine bdR ?_|refine bdL ?_)<;>((repeat (first|(with_reducible refine evCut fun N hN hE hT=>?_)|(with_reducible refine evBlk fun N hN hE hT=>?_)));(try with_reducible refine evCnd fun X Y hX hY=>?_);(conv=>whnf)))|(refine And.intro ?_ ?_;rotate_left;(conv=>whnf);rotate_right))
 | false =>
   rw [numI_gu hs]
   generalize guN b s.pos = G at *
   obtain ⟨n,f,e⟩:=G
   dsimp only at *
   by_cases c1 : e = 0 ∧ n ≤ most
   · rw [if_pos c1]
     obtain ⟨rfl,c2⟩:=c1
     dsimp only
     refine Ev1.of_fin cfg_ok Tryz.func89 rfl (nt:=40) rfl rfl rfl ?_
     ((repeat (first|(with_reducible refine evCut fun N hN hE hT=>?_)|(with_reducible refine evBlk fun N hN hE hT=>?_)));(try with_reducible refine evCnd fun X Y hX hY=>?_);(conv=>whnf))
     repeat' (first|exact trivial|((first|((first|refine hT _ _ ?_|refine hE _ _ _ ?_|refine hN _ _ ?_);clear hN hE hT)|((first|refine hX ?_|refine hY ?_);clear hX hY)|refine kL ?_|(refine ⟨fun hb=>?_,fun hb=>?_⟩<;>(try simp only [nrm] at hb)<;>(try (first|(exfalso;omega)|contradiction|exact kB hb)))|refine kA hu ?_|refine kD hu ?_|refine kW cfg_ok ?_|refine kC ?_|refine bdA ?_|refine bd2 ?_|refine bdR ?_|refine bdL ?_)<;>((repeat (first|(with_reducible refine evCut fun N hN hE hT=>?_)|(with_reducible refine evBlk fun N hN hE hT=>?_)));(try with_reducible refine evCnd fun X Y hX hY=>?_);(conv=>whnf)))|(refine And.intro ?_ ?_;rotate_left;(conv=>whnf);rotate_right))
     all_goals (try exact congrArg Value.bool hs)
     all_goals first|omega|trace_state
   · rw [if_neg c1]
     dsimp only
     refine Ev1.of_fin cfg_ok Tryz.func89 rfl (nt:=40) rfl rfl rfl ?_
     ((repeat (first|(with_reducible refine evCut fun N hN hE hT=>?_)|(with_reducible refine evBlk fun N hN hE hT=>?_)));(try with_reducible refine evCnd fun X Y hX hY=>?_);(conv=>whnf))
     repeat' (first|exact trivial|((first|((first|refine hT _ _ ?_|refine hE _ _ _ ?_|refine hN _ _ ?_);clear hN hE hT)|((first|refine hX ?_|refine hY ?_);clear hX hY)|refine kL ?_|(refine ⟨fun hb=>?_,fun hb=>?_⟩<;>(try simp only [nrm] at hb)<;>(try (first|(exfalso;omega)|contradiction|exact kB hb)))|refine kA hu ?_|refine kD hu ?_|refine kW cfg_ok ?_|refine kC ?_|refine bdA ?_|refine bd2 ?_|refine bdR ?_|refine bdL ?_)<;>((repeat (first|(with_reducible refine evCut fun N hN hE hT=>?_)|(with_reducible refine evBlk fun N hN hE hT=>?_)));(try with_reducible refine evCnd fun X Y hX hY=>?_);(conv=>whnf)))|(refine And.intro ?_ ?_;rotate_left;(conv=>whnf);rotate_right))
     all_goals (try exact congrArg Value.bool hs)
     all_goals first|omega|trace_state
theorem r13num0_ev (b : List (El .u8)) (most : Nat) (hb8 : okU8 b) (hl : b.length ≤ 1000000000000) : Ev1 Tryz.prog 89 [.ptr 0 0,.lit (.int .u64 most)] [(0,.box [.vec .u8 b,i64 0,.ff])] (.lit (.int .u64 (numI b most ⟨0,false⟩).1)) [(0,.box (rdC b (numI b most ⟨0,false⟩).2))]:=by
 have hu:=r01getU_api b 0 hb8 hl (Nat.zero_le _) _ rfl
 obtain ⟨h1,h2⟩:=guN_le hb8 (pos:=0) (Nat.zero_le _)
 rw [numI_gu rfl]
 change Api _ _ [.vec .u8 b,i64 0] _ at hu
 dsimp only at *
 generalize guN b 0 = G at *
 obtain ⟨n,f,e⟩:=G
 dsimp only at *
 by_cases c1 : e = 0 ∧ n ≤ most
 · rw [if_pos c1]
   obtain ⟨rfl,c2⟩:=c1
   dsimp only
   refine Ev1.of_fin cfg_ok Tryz.func89 rfl (nt:=40) rfl rfl rfl ?_
   ((repeat (first|(with_reducible refine evCut fun N hN hE hT=>?_)|(with_reducible refine evBlk fun N hN hE hT=>?_)));(try with_reducible refine evCnd fun X Y hX hY=>?_);(conv=>whnf))
   repeat' (first|exact trivial|((first|((first|refine hT _ _ ?_|refine hE _ _ _ ?_|refine hN _ _ ?_);clear hN hE hT)|((first|refine hX ?_|refine hY ?_);clear hX hY)|refine kL ?_|(refine ⟨fun hb=>?_,fun hb=>?_⟩<;>(try simp only [nrm] at hb)<;>(try (first|(exfalso;omega)|contradiction|exact kB hb)))|refine kA hu ?_|refine kD hu ?_|refine kW cfg_ok ?_|refine kC ?_|refine bdA ?_|refine bd2 ?_|refine bdR ?_|refine bdL ?_)<;>((repeat (first|(with_reducible refine evCut fun N hN hE hT=>?_)|(with_reducible refine evBlk fun N hN hE hT=>?_)));(try with_reducible refine evCnd fun X Y hX hY=>?_);(conv=>whnf)))|(refine And.intro ?_ ?_;rotate_left;(conv=>whnf);rotate_right))
   all_goals first|omega|trace_state
 · rw [if_neg c1]
   dsimp only
   refine Ev1.of_fin cfg_ok Tryz.func89 rfl (nt:=40) rfl rfl rfl ?_
   ((repeat (first|(with_reducible refine evCut fun N hN hE hT=>?_)|(with_reducible refine evBlk fun N hN hE hT=>?_)));(try with_reducible refine evCnd fun X Y hX hY=>?_);(conv=>whnf))
   repeat' (first|exact trivial|((first|((first|refine hT _ _ ?_|refine hE _ _ _ ?_|refine hN _ _ ?_);clear hN hE hT)|((first|refine hX ?_|refine hY ?_);clear hX hY)|refine kL ?_|(refine ⟨fun hb=>?_,fun hb=>?_⟩<;>(try simp only [nrm] at hb)<;>(try (first|(exfalso;omega)|contradiction|exact kB hb)))|refine kA hu ?_|refine kD hu ?_|refine kW cfg_ok ?_|refine kC ?_|refine bdA ?_|refine bd2 ?_|refine bdR ?_|refine bdL ?_)<;>((repeat (first|(with_reducible refine evCut fun N hN hE hT=>?_)|(with_reducible refine evBlk fun N hN hE hT=>?_)));(try with_reducible refine evCnd fun X Y hX hY=>?_);(conv=>whnf)))|(refine And.intro ?_ ?_;rotate_left;(conv=>whnf);rotate_right))
   all_goals first|rfl|omega|trace_state
theorem r13slotsR_ev (b : List (El .u8)) (s : Rd) (nn : Nat) (hnn : nn ≤ 100) (h8 : okU8 b) (hl : b.length ≤ 1000000000000) (hp : s.pos ≤ b.length) : Ev1 Tryz.prog 92 [.ptr 0 0,i64 nn] [(0,.box (rdC b s))] (.vec .slot (manyR (slotR b) nn s).1) [(0,.box (rdC b (manyR (slotR b) nn s).2))]:=by
 obtain ⟨p0,u0⟩:=s
 obtain ⟨RS,hRS⟩ : ∃ R,manyR (slotR b) nn ⟨p0,u0⟩ = R:=⟨_,rfl⟩
 rw [hRS]
 obtain ⟨RL,rp,ru⟩:=RS
 dsimp only at *
 refine Ev1.of_fin cfg_ok Tryz.func92 rfl (nt:=30) rfl rfl rfl ?_
 ((repeat (first|(with_reducible refine evCut fun N hN hE hT=>?_)|(with_reducible refine evBlk fun N hN hE hT=>?_)));(try with_reducible refine evCnd fun X Y hX hY=>?_);(conv=>whnf))
 repeat' (first|exact trivial|((first|((first|refine hT _ _ ?_|refine hE _ _ _ ?_|refine hN _ _ ?_);clear hN hE hT)|((first|refine hX ?_|refine hY ?_);clear hX hY)|refine kL ?_|(refine ⟨fun hb=>?_,fun hb=>?_⟩<;>(try simp only [nrm] at hb)<;>(try (first|(exfalso;omega)|contradiction|exact kB hb)))|refine kW cfg_ok ?_|refine kC ?_|refine bdA ?_|refine bd2 ?_|refine bdR ?_|refine bdL ?_)<;>((repeat (first|(with_reducible refine evCut fun N hN hE hT=>?_)|(with_reducible refine evBlk fun N hN hE hT=>?_)));(try with_reducible refine evCnd fun X Y hX hY=>?_);(conv=>whnf)))|(refine And.intro ?_ ?_;rotate_left;(conv=>whnf);rotate_right))
 refine Runs.loopS cfg_ok (σ:=List (El .slot) × Nat × Nat × Bool) [0,1,5,6] (fun (l,k,t,u)=>[.ptr 0 0,i64 nn,.own .slot 350061 0 l.length none,i64 k]) (fun (l,k,t,u)=>[(0,.box [.vec .u8 b,i64 t,bol u]),(350061,.row .slot l)])
   (fun (l,k,t,u)=>l.length = k ∧ k ≤ nn ∧ t ≤ b.length ∧ l ++ (manyR (slotR b) (nn - k) ⟨t,u⟩).1 = RL ∧ (manyR (slotR b) (nn - k) ⟨t,u⟩).2 = ⟨rp,ru⟩) (fun (l,k,t,u)=>nn - k) ([],0,p0,u0) ⟨rfl,Nat.zero_le _,hp,by rw [Nat.sub_zero,hRS];rfl,by rw [Nat.sub_zero,hRS]⟩ ?_ ?_
 · conv=>whnf
   repeat' (first|exact trivial|((first|((first|refine hT _ _ ?_|refine hE _ _ _ ?_|refine hN _ _ ?_);clear hN hE hT)|((first|refine hX ?_|refine hY ?_);clear hX hY)|refine kL ?_|(refine ⟨fun hb=>?_,fun hb=>?_⟩<;>(try simp only [nrm] at hb)<;>(try (first|(exfalso;omega)|contradiction|exact kB hb)))|refine kW cfg_ok ?_|refine kC ?_|refine bdA ?_|refine bd2 ?_|refine bdR ?_|refine bdL ?_)<;>((repeat (first|(with_reducible refine evCut fun N hN hE hT=>?_)|(with_reducible refine evBlk fun N hN hE hT=>?_)));(try with_reducible refine evCnd fun X Y hX hY=>?_);(conv=>whnf)))|(refine And.intro ?_ ?_;rotate_left;(conv=>whnf);rotate_right))
   all_goals first|rfl|trace_state
 · rintro ⟨l,k,t,u⟩ ⟨m1,m2,m3,m4,m5⟩
   try dsimp only at m1 m2 m3 m4 m5
   by_cases hlive : 0 < nn - k ∧ u = false
   · obtain ⟨hr0,rfl⟩:=hlive
     obtain ⟨r,hr⟩ : ∃ r' : Nat,nn - k = r' + 1:=⟨nn - k - 1,by omega⟩
     have hr2 : nn - (k + 1) = r:=by omega
     have g5 : slotR b ⟨t,false⟩ = (⟨(numI b 255 ⟨t,false⟩).1,(numI b 1000 (numI b 255 ⟨t,false⟩).2).1⟩,(numI b 1000 (numI b 255 ⟨t,false⟩).2).2):=rfl
     rw [hr,many_next rfl,g5] at m4 m5
     have g1:=r13num_ev b ⟨t,false⟩ 255 h8 hl m3
     have g2:=r13num_ev b (numI b 255 ⟨t,false⟩).2 1000 h8 hl (numI_pos h8 m3)
     have g3 : (numI b 1000 (numI b 255 ⟨t,false⟩).2).2.pos ≤ b.length:=numI_pos h8 (numI_pos h8 m3)
     obtain ⟨q1,q2⟩:=numI_le (b:=b) (most:=255) (s:=⟨t,false⟩)
     obtain ⟨q3,q4⟩:=numI_le (b:=b) (most:=1000) (s:=(numI b 255 ⟨t,false⟩).2)
     generalize numI b 255 ⟨t,false⟩ = C at *
     generalize numI b 1000 C.2 = E at *
     obtain ⟨c,cp,cb⟩:=C
     obtain ⟨e,ep,eb⟩:=E
     try dsimp only at *
     change Ev1 _ _ _ [(0,.box [.vec .u8 b,i64 t,bol false])] _ [(0,.box [.vec .u8 b,i64 cp,bol cb])] at g1
     change Ev1 _ _ _ [(0,.box [.vec .u8 b,i64 cp,bol cb])] _ [(0,.box [.vec .u8 b,i64 ep,bol eb])] at g2
     clear g5
     conv=>whnf
     repeat' (first|exact trivial|((first|((first|refine hT _ _ ?_|refine hE _ _ _ ?_|refine hN _ _ ?_);clear hN hE hT)|((first|refine hX ?_|refine hY ?_);clear hX hY)|refine kL ?_|(refine ⟨fun hb=>?_,fun hb=>?_⟩<;>(try simp only [nrm] at hb)<;>(try (first|(exfalso;omega)|contradiction|exact kB hb)))|refine kE g1 [(0,0)] rfl ?_ (hrd:=⟨rfl,trivial⟩)|refine kF g1 [(0,0)] rfl ?_ (hrd:=⟨rfl,trivial⟩)|refine kE g2 [(0,0)] rfl ?_ (hrd:=⟨rfl,trivial⟩)|refine kF g2 [(0,0)] rfl ?_ (hrd:=⟨rfl,trivial⟩)|refine kW cfg_ok ?_|refine kC ?_|refine bdA ?_|refine bd2 ?_|refine bdR ?_|refine bdL ?_)<;>((repeat (first|(with_reducible refine evCut fun N hN hE hT=>?_)|(with_reducible refine evBlk fun N hN hE hT=>?_)));(try with_reducible refine evCnd fun X Y hX hY=>?_);(conv=>whnf)))|(refine And.intro ?_ ?_;rotate_left;(conv=>whnf);rotate_right))
     refine .to (l ++ [⟨c,e⟩],k + 1,ep,eb) ⟨by rw [List.length_append,List.length_singleton,m1],(by first|omega|(dsimp only;omega)),g3,by rw [List.append_assoc,hr2];exact m4,by rw [hr2];exact m5⟩ (by first|omega|(dsimp only;omega)) ?_
     conv=>whnf
     repeat' (first|exact trivial|((first|((first|refine hT _ _ ?_|refine hE _ _ _ ?_|refine hN _ _ ?_);clear hN hE hT)|((first|refine hX ?_|refine hY ?_);clear hX hY)|refine kL ?_|(refine ⟨fun hb=>?_,fun hb=>?_⟩<;>(try simp only [nrm] at hb)<;>(try (first|(exfalso;omega)|contradiction|exact kB hb)))|refine kW cfg_ok ?_|refine kC ?_|refine bdA ?_|refine bd2 ?_|refine bdR ?_|refine bdL ?_)<;>((repeat (first|(with_reducible refine evCut fun N hN hE hT=>?_)|(with_reducible refine evBlk fun N hN hE hT=>?_)));(try with_reducible refine evCnd fun X Y hX hY=>?_);(conv=>whnf)))|(refine And.intro ?_ ?_;rotate_left;(conv=>whnf);rotate_right))
     all_goals first|rfl|exact row_grow (t:=.slot)|exact congrArg (Value.int _) (by simp)|(simp;done)|trace_state
   · rw [many_dead hlive] at m4 m5
     dsimp only at m4 m5
     obtain rfl : RL = l:=by rw [← m4];simp
     obtain ⟨d2,d3⟩:=Rd.mk.inj m5
     obtain rfl : rp = t:=d2.symm
     obtain rfl : ru = u:=d3.symm
     clear m4 m5 d2 d3 hRS
     conv=>whnf
     repeat' (first|exact trivial|((first|((first|refine hT _ _ ?_|refine hE _ _ _ ?_|refine hN _ _ ?_);clear hN hE hT)|((first|refine hX ?_|refine hY ?_);clear hX hY)|refine kL ?_|(refine ⟨fun hb=>?_,fun hb=>?_⟩<;>(try simp only [nrm] at hb)<;>(try (first|(exfalso;omega)|contradiction|exact kB hb)))|refine kW cfg_ok ?_|refine kC ?_|refine bdA ?_|refine bd2 ?_|refine bdR ?_|refine bdL ?_)<;>((repeat (first|(with_reducible refine evCut fun N hN hE hT=>?_)|(with_reducible refine evBlk fun N hN hE hT=>?_)));(try with_reducible refine evCnd fun X Y hX hY=>?_);(conv=>whnf)))|(refine And.intro ?_ ?_;rotate_left;(conv=>whnf);rotate_right))
     all_goals first|(exact absurd ⟨by omega,by simpa using hb⟩ hlive)|rfl|exact List.take_length|trace_state
open Go Go.RowKit Eng
theorem r13bytes_api (w : Wld) (hw : OkW w) (hs : 0 ≤ w.seed ∧ w.seed ≤ 18446744073709551615) : Api Tryz.prog 31 [wldV w] (.tup [.vec .u8 (bytesWE w).1,i64 (bytesWE w).2]):=by
 have hrt:=r13right_api w hw
 unfold bytesWE
 cases hR : rightW w with
 | false =>
   rw [hR] at hrt
   rw [if_neg (by simp),if_neg (by simp)]
   refine Api.of_fin cfg_ok Tryz.func31 rfl (nt:=104) rfl rfl ?_
   ((repeat (first|(with_reducible refine evCut fun N hN hE hT=>?_)|(with_reducible refine evBlk fun N hN hE hT=>?_)));(try with_reducible refine evCnd fun X Y hX hY=>?_);(conv=>whnf))
   repeat' (first|exact trivial|((first|((first|refine hT _ _ ?_|refine hE _ _ _ ?_|refine hN _ _ ?_);clear hN hE hT)|((first|refine hX ?_|refine hY ?_);clear hX hY)|refine kL ?_|(refine ⟨fun hb=>?_,fun hb=>?_⟩<;>(try simp only [nrm] at hb)<;>(try (first|(exfalso;omega)|contradiction|exact kB hb)))|refine kA hrt ?_|refine kD hrt ?_|refine kW cfg_ok ?_|refine kC ?_|refine bdA ?_|refine bd2 ?_|refine bdR ?_|refine bdL ?_)<;>((repeat (first|(with_reducible refine evCut fun N hN hE hT=>?_)|(with_reducible refine evBlk fun N hN hE hT=>?_)));(try with_reducible refine evCnd fun X Y hX hY=>?_);(conv=>whnf)))|(refine And.intro ?_ ?_;rotate_left;(conv=>whnf);rotate_right))
   all_goals first|rfl|trace_state
 | true =>
 rw [hR] at hrt
 rw [if_pos rfl,if_pos rfl]
 have hG : GoodW w:=⟨rightW_iff.1 hR,hs⟩
 obtain ⟨z1,z2,z3⟩:=hG.sz
 have z4:=hG.right.few
 have h1:=uintL_len w.size.toNat
 have h2:=uintL_len w.seed.toNat
 have h3:=uintL_len w.tick.toNat
 have h4:=uintL_len (w.chunks.length : Int).toNat
 have h5:=uintL_len (w.players.length : Int).toNat
 have e1:=r01uint_nil w.size (by omega) (by omega)
 have e2:=r01uint_ev (uintL w.size.toNat) _ w.seed rfl hs.1 (by omega) (by omega)
 have e3:=r01uint_ev (uintL w.size.toNat ++ uintL w.seed.toNat) _ w.tick (by rw [List.length_append]) (by omega) (by omega) (by rw [List.length_append];omega)
 have e4:=r01uint_ev (uintL w.size.toNat ++ uintL w.seed.toNat ++ uintL w.tick.toNat) _ (w.chunks.length : Int) (by rw [List.length_append,List.length_append]) (by omega) (by omega) (by simp only [List.length_append];omega)
 unfold bytesW
 rw [putY1,putY2,putY1]
 have hQe : (uintL w.size.toNat).length + (uintL w.seed.toNat).length + (uintL w.tick.toNat).length + (uintL (w.chunks.length : Int).toNat).length = (uintL w.size.toNat ++ uintL w.seed.toNat ++ uintL w.tick.toNat ++ uintL (w.chunks.length : Int).toNat).length:=by simp only [List.length_append]
 have hQl : (uintL w.size.toNat ++ uintL w.seed.toNat ++ uintL w.tick.toNat ++ uintL (w.chunks.length : Int).toNat).length ≤ 1000:=by simp only [List.length_append];omega
 have hQa : uintL w.size.toNat ++ uintL w.seed.toNat ++ (uintL w.tick.toNat ++ uintL (w.chunks.length : Int).toNat) = uintL w.size.toNat ++ uintL w.seed.toNat ++ uintL w.tick.toNat ++ uintL (w.chunks.length : Int).toNat:=by simp only [List.append_assoc]
 rw [hQe] at e4
 rw [hQa]
 clear hQe hQa h1 h2 h3 h4
 generalize hQ : uintL w.size.toNat ++ uintL w.seed.toNat ++ uintL w.tick.toNat ++ uintL (w.chunks.length : Int).toNat = Q at *
 clear hQ
 generalize uintL w.size.toNat = A at *
 generalize uintL w.seed.toNat = B at *
 generalize uintL w.tick.toNat = C at *
 refine Api.of_fin cfg_ok Tryz.func31 rfl (nt:=104) rfl rfl ?_
 ((repeat (first|(with_reducible refine evCut fun N hN hE hT=>?_)|(with_reducible refine evBlk fun N hN hE hT=>?_)));(try with_reducible refine evCnd fun X Y hX hY=>?_);(conv=>whnf))
 repeat' (first|exact trivial|((first|((first|refine hT _ _ ?_|refine hE _ _ _ ?_|refine hN _ _ ?_);clear hN hE hT)|((first|refine hX ?_|refine hY ?_);clear hX hY)|refine kL ?_|(refine ⟨fun hb=>?_,fun hb=>?_⟩<;>(try simp only [nrm] at hb)<;>(try (first|(exfalso;omega)|contradiction|exact kB hb)))|refine kE e1 [(390001,150101)] rfl ?_|refine kF e1 [(390001,150101)] rfl ?_|refine kE e2 [(1,150101),(390001,150103)] rfl ?_ (hrd:=⟨rfl,trivial⟩)|refine kF e2 [(1,150101),(390001,150103)] rfl ?_ (hrd:=⟨rfl,trivial⟩)|refine kE e3 [(1,150103),(390001,150105)] rfl ?_ (hrd:=⟨rfl,trivial⟩)|refine kF e3 [(1,150103),(390001,150105)] rfl ?_ (hrd:=⟨rfl,trivial⟩)|refine kE e4 [(1,150105),(390001,150107)] rfl ?_ (hrd:=⟨rfl,trivial⟩)|refine kF e4 [(1,150105),(390001,150107)] rfl ?_ (hrd:=⟨rfl,trivial⟩)|refine kA hrt ?_|refine kD hrt ?_|refine kW cfg_ok ?_|refine kC ?_|refine bdA ?_|refine bd2 ?_|refine bdR ?_|refine bdL ?_)<;>((repeat (first|(with_reducible refine evCut fun N hN hE hT=>?_)|(with_reducible refine evBlk fun N hN hE hT=>?_)));(try with_reducible refine evCnd fun X Y hX hY=>?_);(conv=>whnf)))|(refine And.intro ?_ ?_;rotate_left;(conv=>whnf);rotate_right))
 clear hrt e1 e2 e3 e4
 refine Runs.loopS cfg_ok (σ:=Nat × List Int) [1,4,5] (fun (k,V)=>[.ptr 2 0,.own .u8 150109 0 V.length none,i64 k]) (fun (_,V)=>[(2,.box (wldC w)),(150109,.row .u8 V)]) (fun (k,V)=>k ≤ w.chunks.length ∧ V = Q ++ (w.chunks.take k).flatMap blobY ∧ V.length ≤ 1000 + k * 5010) (fun (k,_)=>w.chunks.length - k) (0,Q) ⟨by omega,by simp,by omega⟩ ?_ ?_
 · conv=>whnf
   repeat' (first|exact trivial|((first|((first|refine hT _ _ ?_|refine hE _ _ _ ?_|refine hN _ _ ?_);clear hN hE hT)|((first|refine hX ?_|refine hY ?_);clear hX hY)|refine kL ?_|(refine ⟨fun hb=>?_,fun hb=>?_⟩<;>(try simp only [nrm] at hb)<;>(try (first|(exfalso;omega)|contradiction|exact kB hb)))|refine kW cfg_ok ?_|refine kC ?_|refine bdA ?_|refine bd2 ?_|refine bdR ?_|refine bdL ?_)<;>((repeat (first|(with_reducible refine evCut fun N hN hE hT=>?_)|(with_reducible refine evBlk fun N hN hE hT=>?_)));(try with_reducible refine evCnd fun X Y hX hY=>?_);(conv=>whnf)))|(refine And.intro ?_ ?_;rotate_left;(conv=>whnf);rotate_right))
   all_goals first|rfl|(simp;done)|exact List.take_length|trace_state
 · rintro ⟨k,V⟩ ⟨hk,hV,hVl⟩
   try dsimp only at hk hV hVl
   by_cases hlt : k < w.chunks.length
   · have hgc:=hG.ch (elt_mem (t:=.chunk) hlt)
     have hb1:=r11bytes_api (elt .chunk w.chunks k) (okC_right hgc.right) hgc.right
     have hbl:=hgc.le.1
     have hbY : blobY (elt .chunk w.chunks k) = uintL (bytesC (elt .chunk w.chunks k)).length ++ bytesC (elt .chunk w.chunks k):=rfl
     have hby:=blobY_le hgc
     have q1:=r01blob_ev V (bytesC (elt .chunk w.chunks k)) _ rfl (by omega)
     rw [← hbY] at q1
     have hV2 : V ++ blobY (elt .chunk w.chunks k) = Q ++ (w.chunks.take (k + 1)).flatMap blobY:=by
       rw [flatMap_take (t:=.chunk) blobY hlt,hV,List.append_assoc]
     have hV3 : (V ++ blobY (elt .chunk w.chunks k)).length ≤ 1000 + (k + 1) * 5010:=by rw [List.length_append];omega
     clear hbY hby
     generalize bytesC (elt .chunk w.chunks k) = BC at *
     generalize blobY (elt .chunk w.chunks k) = BY at *
     conv=>whnf
     repeat' (first|exact trivial|((first|((first|refine hT _ _ ?_|refine hE _ _ _ ?_|refine hN _ _ ?_);clear hN hE hT)|((first|refine hX ?_|refine hY ?_);clear hX hY)|refine kL ?_|(refine ⟨fun hb=>?_,fun hb=>?_⟩<;>(try simp only [nrm] at hb)<;>(try (first|(exfalso;omega)|contradiction|exact kB hb)))|refine kE q1 [(1,150109),(390001,150111)] rfl ?_ (hrd:=⟨rfl,trivial⟩)|refine kF q1 [(1,150109),(390001,150111)] rfl ?_ (hrd:=⟨rfl,trivial⟩)|refine kA hb1 ?_|refine kD hb1 ?_|refine kW cfg_ok ?_|refine kC ?_|refine bdA ?_|refine bd2 ?_|refine bdR ?_|refine bdL ?_)<;>((repeat (first|(with_reducible refine evCut fun N hN hE hT=>?_)|(with_reducible refine evBlk fun N hN hE hT=>?_)));(try with_reducible refine evCnd fun X Y hX hY=>?_);(conv=>whnf)))|(refine And.intro ?_ ?_;rotate_left;(conv=>whnf);rotate_right))
     refine .to (k + 1,_) ⟨hlt,hV2,hV3⟩ (by first|omega|(dsimp only;omega)) ?_
     conv=>whnf
     repeat' (first|exact trivial|((first|((first|refine hT _ _ ?_|refine hE _ _ _ ?_|refine hN _ _ ?_);clear hN hE hT)|((first|refine hX ?_|refine hY ?_);clear hX hY)|refine kL ?_|(refine ⟨fun hb=>?_,fun hb=>?_⟩<;>(try simp only [nrm] at hb)<;>(try (first|(exfalso;omega)|contradiction|exact kB hb)))|refine kW cfg_ok ?_|refine kC ?_|refine bdA ?_|refine bd2 ?_|refine bdR ?_|refine bdL ?_)<;>((repeat (first|(with_reducible refine evCut fun N hN hE hT=>?_)|(with_reducible refine evBlk fun N hN hE hT=>?_)));(try with_reducible refine evCnd fun X Y hX hY=>?_);(conv=>whnf)))|(refine And.intro ?_ ?_;rotate_left;(conv=>whnf);rotate_right))
     all_goals first|rfl|(simp only [List.length_append];done)|(simp only [List.length_append,List.take_length];done)|(refine List.take_of_length_le ?_;simp only [List.length_append];omega)|trace_state
   · obtain rfl : k = w.chunks.length:=by omega
     rw [List.take_length] at hV
     have e5:=r01uint_ev V _ (w.players.length : Int) rfl (by omega) (by omega) (by omega)
     conv=>whnf
     repeat' (first|exact trivial|((first|((first|refine hT _ _ ?_|refine hE _ _ _ ?_|refine hN _ _ ?_);clear hN hE hT)|((first|refine hX ?_|refine hY ?_);clear hX hY)|refine kL ?_|(refine ⟨fun hb=>?_,fun hb=>?_⟩<;>(try simp only [nrm] at hb)<;>(try (first|(exfalso;omega)|contradiction|exact kB hb)))|refine kE e5 [(1,150109),(390001,150113)] rfl ?_ (hrd:=⟨rfl,trivial⟩)|refine kF e5 [(1,150109),(390001,150113)] rfl ?_ (hrd:=⟨rfl,trivial⟩)|refine kW cfg_ok ?_|refine kC ?_|refine bdA ?_|refine bd2 ?_|refine bdR ?_|refine bdL ?_)<;>((repeat (first|(with_reducible refine evCut fun N hN hE hT=>?_)|(with_reducible refine evBlk fun N hN hE hT=>?_)));(try with_reducible refine evCnd fun X Y hX hY=>?_);(conv=>whnf)))|(refine And.intro ?_ ?_;rotate_left;(conv=>whnf);rotate_right))
     clear e5
     refine Runs.loopS cfg_ok (σ:=Nat × List Int) [1,4,8] (fun (k,S)=>[.ptr 2 0,.own .u8 150115 0 S.length none,i64 k]) (fun (_,S)=>[(2,.box (wldC w)),(150115,.row .u8 S)]) (fun (k,S)=>k ≤ w.players.length ∧ S = V ++ uintL (w.players.length : Int).toNat ++ (w.players.take k).flatMap plY ∧ S.length ≤ 3000000 + k * 400) (fun (k,_)=>w.players.length - k) (0,V ++ uintL (w.players.length : Int).toNat) ⟨by omega,by simp,by simp only [List.length_append];omega⟩ ?_ ?_
     · conv=>whnf
       repeat' (first|exact trivial|((first|((first|refine hT _ _ ?_|refine hE _ _ _ ?_|refine hN _ _ ?_);clear hN hE hT)|((first|refine hX ?_|refine hY ?_);clear hX hY)|refine kL ?_|(refine ⟨fun hb=>?_,fun hb=>?_⟩<;>(try simp only [nrm] at hb)<;>(try (first|(exfalso;omega)|contradiction|exact kB hb)))|refine kW cfg_ok ?_|refine kC ?_|refine bdA ?_|refine bd2 ?_|refine bdR ?_|refine bdL ?_)<;>((repeat (first|(with_reducible refine evCut fun N hN hE hT=>?_)|(with_reducible refine evBlk fun N hN hE hT=>?_)));(try with_reducible refine evCnd fun X Y hX hY=>?_);(conv=>whnf)))|(refine And.intro ?_ ?_;rotate_left;(conv=>whnf);rotate_right))
       all_goals first|rfl|(simp;done)|exact List.take_length|(simp only [List.length_append];done)|(simp only [List.length_append,List.take_length];done)|(refine List.take_of_length_le ?_;simp only [List.length_append];omega)|trace_state
     · rintro ⟨j,S⟩ ⟨hj,hS,hSl⟩
       try dsimp only at hj hS hSl
       by_cases hlj : j < w.players.length
       · have hp:=hG.pl (elt_mem (t:=.player) hlj)
         have o1:=hp.id;have o2:=hp.x;have o3:=hp.y;have o4:=hp.bag;have o5:=hp.w
         have o7 : (elt .player w.players j).offer.length ≤ 8:=by
           rcases hp.off with ⟨_,h⟩|⟨_,h⟩
           · rw [h];simp
           · omega
         have hpl:=plY_le hp
         have hplY : plY (elt .player w.players j) = uintL (elt .player w.players j).id.toNat ++ (uintL (elt .player w.players j).x.toNat ++ uintL (elt .player w.players j).y.toNat) ++ ((elt .player w.players j).bag.flatMap slotL ++ ((uintL ((elt .player w.players j).wth + 1).toNat ++ uintL (agI (elt .player w.players j).agrees).toNat) ++ (elt .player w.players j).offer.flatMap slotL)):=by unfold plY;rw [putY3,putY2]
         have hS2 : S ++ plY (elt .player w.players j) = V ++ uintL (w.players.length : Int).toNat ++ (w.players.take (j + 1)).flatMap plY:=by
           rw [flatMap_take (t:=.player) plY hlj,hS,List.append_assoc]
         have hS3 : (S ++ plY (elt .player w.players j)).length ≤ 3000000 + (j + 1) * 400:=by rw [List.length_append];omega
         have c1:=uintL_len (elt .player w.players j).id.toNat
         have c2:=uintL_len (elt .player w.players j).x.toNat
         have c3:=uintL_len (elt .player w.players j).y.toNat
         have c4:=flatMap_len slotL 20 (elt .player w.players j).bag (fun s _=>slotL_len s)
         have c5:=uintL_len ((elt .player w.players j).wth + 1).toNat
         have c6:=uintL_len (agI (elt .player w.players j).agrees).toNat
         have u1:=r01uint_ev S _ (elt .player w.players j).id rfl (by omega) (by omega) (by omega)
         generalize uintL (elt .player w.players j).id.toNat = U1 at *
         have u2:=r01uint_ev (S ++ U1) _ (elt .player w.players j).x (by rw [List.length_append]) (by omega) (by omega) (by simp only [List.length_append];omega)
         generalize uintL (elt .player w.players j).x.toNat = U2 at *
         have u3:=r01uint_ev (S ++ U1 ++ U2) (S.length + U1.length + U2.length) (elt .player w.players j).y (by simp only [List.length_append]) (by omega) (by omega) (by simp only [List.length_append];omega)
         generalize uintL (elt .player w.players j).y.toNat = U3 at *
         have u4:=r13slots_ev (S ++ U1 ++ U2 ++ U3) (elt .player w.players j).bag (S.length + U1.length + U2.length + U3.length) (by simp only [List.length_append]) (by simp only [List.length_append];omega) (by omega) hp.bagS
         generalize (elt .player w.players j).bag.flatMap slotL = U4 at *
         have u5:=r01uint_ev (S ++ U1 ++ U2 ++ U3 ++ U4) (S.length + U1.length + U2.length + U3.length + U4.length) ((elt .player w.players j).wth + 1) (by simp only [List.length_append]) (by omega) (by omega) (by simp only [List.length_append];omega)
         generalize uintL ((elt .player w.players j).wth + 1).toNat = U5 at *
         have u6:=r01uint_ev (S ++ U1 ++ U2 ++ U3 ++ U4 ++ U5) (S.length + U1.length + U2.length + U3.length + U4.length + U5.length) (agI (elt .player w.players j).agrees) (by simp only [List.length_append]) (agI_bd _).1 (by have:=(agI_bd (elt .player w.players j).agrees).2;omega) (by simp only [List.length_append];omega)
         generalize uintL (agI (elt .player w.players j).agrees).toNat = U6 at *
         have u7:=r13slots_ev (S ++ U1 ++ U2 ++ U3 ++ U4 ++ U5 ++ U6) (elt .player w.players j).offer (S.length + U1.length + U2.length + U3.length + U4.length + U5.length + U6.length) (by simp only [List.length_append]) (by simp only [List.length_append];omega) (by omega) hp.offS
         generalize (elt .player w.players j).offer.flatMap slotL = U7 at *
         have hax : ((elt .player w.players j).agrees = true ∧ agI (elt .player w.players j).agrees = 1) ∨ ((elt .player w.players j).agrees = false ∧ agI (elt .player w.players j).agrees = 0):=by unfold agI;cases (elt .player w.players j).agrees<;>simp
         have hall : S ++ plY (elt .player w.players j) = S ++ U1 ++ U2 ++ U3 ++ U4 ++ U5 ++ U6 ++ U7:=by rw [hplY];simp only [List.append_assoc]
         rw [hall] at hS2 hS3
         clear hall hplY hpl hS o4 o7 c4
         have i1 : (elt .player w.players (j : Int).toNat).id = (elt .player w.players j).id:=rfl
         have i2 : (elt .player w.players (j : Int).toNat).x = (elt .player w.players j).x:=rfl
         have i3 : (elt .player w.players (j : Int).toNat).y = (elt .player w.players j).y:=rfl
         have i4 : (elt .player w.players (j : Int).toNat).wth = (elt .player w.players j).wth:=rfl
         rcases hax with ⟨hx,hy⟩|⟨hx,hy⟩
         all_goals
           as_aux_lemma =>
             rw [hy] at u6
             show ev _ _ _ _ _ _ _
             (repeat (first|(with_reducible refine evCut fun N hN hE hT=>?_)|(with_reducible refine evBlk fun N hN hE hT=>?_)));(try with_reducible refine evCnd fun X Y hX hY=>?_);(conv=>whnf)
             repeat' (first|exact trivial|((first|((first|refine hT _ _ ?_|refine hE _ _ _ ?_|refine hN _ _ ?_);clear hN hE hT)|((first|refine hX ?_|refine hY ?_);clear hX hY)|refine kL ?_|(refine ⟨fun hb=>?_,fun hb=>?_⟩<;>(try simp only [nrm] at hb)<;>(try (first|(exfalso;omega)|contradiction|exact kB hb)))|refine kE u1 [(1,150115),(390001,150117)] rfl ?_ (hrd:=⟨rfl,trivial⟩)|refine kF u1 [(1,150115),(390001,150117)] rfl ?_ (hrd:=⟨rfl,trivial⟩)|refine kE u2 [(1,150117),(390001,150119)] rfl ?_ (hrd:=⟨rfl,trivial⟩)|refine kF u2 [(1,150117),(390001,150119)] rfl ?_ (hrd:=⟨rfl,trivial⟩)|refine kE u3 [(1,150119),(390001,150121)] rfl ?_ (hrd:=⟨rfl,trivial⟩)|refine kF u3 [(1,150119),(390001,150121)] rfl ?_ (hrd:=⟨rfl,trivial⟩)|refine kE u4 [(1,150121),(390001,150123)] rfl ?_ (hrd:=⟨rfl,trivial⟩)|refine kF u4 [(1,150121),(390001,150123)] rfl ?_ (hrd:=⟨rfl,trivial⟩)|refine kE u5 [(1,150123),(390001,150125)] rfl ?_ (hrd:=⟨rfl,trivial⟩)|refine kF u5 [(1,150123),(390001,150125)] rfl ?_ (hrd:=⟨rfl,trivial⟩)|refine kE u6 [(1,150125),(390001,150127)] rfl ?_ (hrd:=⟨rfl,trivial⟩)|refine kF u6 [(1,150125),(390001,150127)] rfl ?_ (hrd:=⟨rfl,trivial⟩)|refine kE u7 [(1,150127),(390001,150129)] rfl ?_ (hrd:=⟨rfl,trivial⟩)|refine kF u7 [(1,150127),(390001,150129)] rfl ?_ (hrd:=⟨rfl,trivial⟩)|refine kW cfg_ok ?_|refine kC ?_|refine bdA ?_|refine bd2 ?_|refine bdR ?_|refine bdL ?_)<;>((repeat (first|(with_reducible refine evCut fun N hN hE hT=>?_)|(with_reducible refine evBlk fun N hN hE hT=>?_)));(try with_reducible refine evCnd fun X Y hX hY=>?_);(conv=>whnf)))|(refine And.intro ?_ ?_;rotate_left;(conv=>whnf);rotate_right))
             refine .to (j + 1,_) ⟨hlj,hS2,hS3⟩ (by first|omega|(dsimp only;omega)) ?_
             conv=>whnf
             repeat' (first|exact trivial|((first|((first|refine hT _ _ ?_|refine hE _ _ _ ?_|refine hN _ _ ?_);clear hN hE hT)|((first|refine hX ?_|refine hY ?_);clear hX hY)|refine kL ?_|(refine ⟨fun hb=>?_,fun hb=>?_⟩<;>(try simp only [nrm] at hb)<;>(try (first|(exfalso;omega)|contradiction|exact kB hb)))|refine kW cfg_ok ?_|refine kC ?_|refine bdA ?_|refine bd2 ?_|refine bdR ?_|refine bdL ?_)<;>((repeat (first|(with_reducible refine evCut fun N hN hE hT=>?_)|(with_reducible refine evBlk fun N hN hE hT=>?_)));(try with_reducible refine evCnd fun X Y hX hY=>?_);(conv=>whnf)))|(refine And.intro ?_ ?_;rotate_left;(conv=>whnf);rotate_right))
             all_goals first|rfl|(simp only [List.length_append];done)|(simp only [List.length_append,List.take_length];done)|(refine List.take_of_length_le ?_;simp only [List.length_append];omega)|trace_state
       · obtain rfl : j = w.players.length:=by omega
         rw [List.take_length] at hS
         rw [hV] at hS
         conv=>whnf
         repeat' (first|exact trivial|((first|((first|refine hT _ _ ?_|refine hE _ _ _ ?_|refine hN _ _ ?_);clear hN hE hT)|((first|refine hX ?_|refine hY ?_);clear hX hY)|refine kL ?_|(refine ⟨fun hb=>?_,fun hb=>?_⟩<;>(try simp only [nrm] at hb)<;>(try (first|(exfalso;omega)|contradiction|exact kB hb)))|refine kW cfg_ok ?_|refine kC ?_|refine bdA ?_|refine bd2 ?_|refine bdR ?_|refine bdL ?_)<;>((repeat (first|(with_reducible refine evCut fun N hN hE hT=>?_)|(with_reducible refine evBlk fun N hN hE hT=>?_)));(try with_reducible refine evCnd fun X Y hX hY=>?_);(conv=>whnf)))|(refine And.intro ?_ ?_;rotate_left;(conv=>whnf);rotate_right))
         all_goals first|rfl|(rw [← hS];exact List.take_length)|(rw [← hS,List.drop_zero];exact List.take_length)|trace_state
open Go Go.RowKit Eng
theorem plM_eq {b : List Int} {s : Rd} {x1 x2 x3 x5 x6 : Int × Rd} {x4 x7 : List Slot × Rd} (h1 : numI b 1073741824 s = x1) (h2 : numI b 1000 x1.2 = x2) (h3 : numI b 1000 x2.2 = x3) (h4 : manyR (slotR b) 8 x3.2 = x4) (h5 : numI b 1073741825 x4.2 = x5) (h6 : numI b 1 x5.2 = x6) (h7 : offM b x5.1 x6.2 = x7) :
   plM b s = (⟨x1.1,x2.1,x3.1,x4.1,x5.1 - 1,x7.1,decide (x6.1 = 1)⟩,x7.2):=by
 subst h1 h2 h3 h4 h5 h6 h7;rfl
theorem r13read_api (b : List (El .u8)) (h8 : okU8 b) (hl : b.length ≤ 1000000000000) (R : Wld × Int) (hR : readW b = R) : Api Tryz.prog 33 [.vec .u8 b] (.tup [wldV R.1,i64 R.2]):=by
 have hk:=wrOkM h8
 have k1:=hk.p1;have k2:=hk.p2;have k3:=hk.p3;have k4:=hk.p4;have k5:=hk.p5;have k6:=hk.p6
 have knc:=hk.nc;have knp:=hk.np
 have hrt:=r13right_api (wldM b) hk.ok
 clear hk
 have hW : wldM b = ⟨(wrM b).sz.1,(wrM b).sd.1,(wrM b).tk.1,(wrM b).cs.1,(wrM b).ps.1⟩:=rfl
 have hw:=refWaysW b
 rw [hR] at hw
 obtain ⟨W1,W2,W3,W4⟩:=hw
 rw [hW] at hrt W3 W4
 clear hW hR
 have b1 : 0 ≤ (wrM b).sz.1 ∧ (wrM b).sz.1 ≤ (16 : Nat):=numI_le
 have b2 : 0 ≤ (wrM b).tk.1 ∧ (wrM b).tk.1 ≤ (1099511627776 : Nat):=numI_le
 have g1 : Ev1 Tryz.prog 89 _ [(0,.box [.vec .u8 b,i64 0,.ff])] (.lit (.int .u64 (wrM b).sz.1)) [(0,.box (rdC b (wrM b).sz.2))]:=r13num0_ev b 16 h8 hl
 have g2 : Ev1 Tryz.prog 89 _ [(0,.box (rdC b (wrM b).sz.2))] (.lit (.int .u64 (wrM b).sd.1)) [(0,.box (rdC b (wrM b).sd.2))]:=r13num_ev b (wrM b).sz.2 B64 h8 hl k1
 have g3 : Ev1 Tryz.prog 89 _ [(0,.box (rdC b (wrM b).sd.2))] (.lit (.int .u64 (wrM b).tk.1)) [(0,.box (rdC b (wrM b).tk.2))]:=r13num_ev b (wrM b).sd.2 B40 h8 hl k2
 have g4 : Ev1 Tryz.prog 89 _ [(0,.box (rdC b (wrM b).tk.2))] (.lit (.int .u64 (wrM b).nc.1)) [(0,.box (rdC b (wrM b).nc.2))]:=r13num_ev b (wrM b).tk.2 256 h8 hl k3
 have g6 : Ev1 Tryz.prog 89 _ [(0,.box (rdC b (wrM b).cs.2))] (.lit (.int .u64 (wrM b).np.1)) [(0,.box (rdC b (wrM b).np.2))]:=r13num_ev b (wrM b).cs.2 32 h8 hl k5
 have ec : (wrM b).cs = manyR (chunkBR b 5000) (wrM b).nc.1.toNat (wrM b).nc.2:=rfl
 have es : (wrM b).ps = manyR (plM b) (wrM b).np.1.toNat (wrM b).np.2:=rfl
 generalize wrM b = K at *
 obtain ⟨⟨sz,zp,zb⟩,⟨sd,dp,db⟩,⟨tk,tp,tb⟩,⟨nc,np,nb⟩,⟨cs,cp,cb⟩,⟨no,mp,mb⟩,⟨ps,sp,sb⟩⟩:=K
 dsimp only at *
 have hr2:=lendWp hrt rfl rfl
 dsimp only at hr2
 generalize rightW ⟨sz,sd,tk,cs,ps⟩ = G at *
 have W2' : ¬ (sp : Int) = b.length → R = (zeroW,113):=fun h=>W2 (by omega)
 have W4' : sb = false → (sp : Int) = b.length → G = true → R = (⟨sz,sd,tk,cs,ps⟩,0):=fun h1 h2 h3=>W4 h1 (by omega) h3
 clear W2 W4 hrt
 change Ev1 _ _ _ _ _ [(0,.box [.vec .u8 b,i64 zp,bol zb])] at g1
 change Ev1 _ _ _ [(0,.box [.vec .u8 b,i64 zp,bol zb])] _ [(0,.box [.vec .u8 b,i64 dp,bol db])] at g2
 change Ev1 _ _ _ [(0,.box [.vec .u8 b,i64 dp,bol db])] _ [(0,.box [.vec .u8 b,i64 tp,bol tb])] at g3
 change Ev1 _ _ _ [(0,.box [.vec .u8 b,i64 tp,bol tb])] _ [(0,.box [.vec .u8 b,i64 np,bol nb])] at g4
 change Ev1 _ _ _ [(0,.box [.vec .u8 b,i64 cp,bol cb])] _ [(0,.box [.vec .u8 b,i64 mp,bol mb])] at g6
 refine Api.of_fin cfg_ok Tryz.func33 rfl (nt:=143) rfl rfl ?_
 ((repeat (first|(with_reducible refine evCut fun N hN hE hT=>?_)|(with_reducible refine evBlk fun N hN hE hT=>?_)));(try with_reducible refine evCnd fun X Y hX hY=>?_);(conv=>whnf))
 repeat' (first|exact trivial|((first|((first|refine hT _ _ ?_|refine hE _ _ _ ?_|refine hN _ _ ?_);clear hN hE hT)|((first|refine hX ?_|refine hY ?_);clear hX hY)|refine kL ?_|(refine ⟨fun hb=>?_,fun hb=>?_⟩<;>(try simp only [nrm] at hb)<;>(try (first|(exfalso;omega)|contradiction|exact kB hb)))|refine kE g1 [(0,32)] rfl ?_ (hrd:=⟨rfl,trivial⟩)|refine kF g1 [(0,32)] rfl ?_ (hrd:=⟨rfl,trivial⟩)|refine kE g2 [(0,32)] rfl ?_ (hrd:=⟨rfl,trivial⟩)|refine kF g2 [(0,32)] rfl ?_ (hrd:=⟨rfl,trivial⟩)|refine kE g3 [(0,32)] rfl ?_ (hrd:=⟨rfl,trivial⟩)|refine kF g3 [(0,32)] rfl ?_ (hrd:=⟨rfl,trivial⟩)|refine kE g4 [(0,32)] rfl ?_ (hrd:=⟨rfl,trivial⟩)|refine kF g4 [(0,32)] rfl ?_ (hrd:=⟨rfl,trivial⟩)|refine kW cfg_ok ?_|refine kC ?_|refine bdA ?_|refine bd2 ?_|refine bdR ?_|refine bdL ?_)<;>((repeat (first|(with_reducible refine evCut fun N hN hE hT=>?_)|(with_reducible refine evBlk fun N hN hE hT=>?_)));(try with_reducible refine evCnd fun X Y hX hY=>?_);(conv=>whnf)))|(refine And.intro ?_ ?_;rotate_left;(conv=>whnf);rotate_right))
 clear g1 g2 g3 g4
 refine Runs.loopS cfg_ok (σ:=List (El .chunk) × Nat × Nat × Bool) [0,2,4,5,6] (fun (l,r,p,u)=>[.vec .u8 b,.ptr 4 0,.ptr 32 0,.ptr 10 0,.lit (.int .u64 r)]) (fun (l,r,p,u)=>[(4,.box (wldC zeroW)),(32,.box [.vec .u8 b,i64 p,bol u]),(10,.box [i64 sz,.lit (.int .u64 sd),i64 tk,.own .chunk 350001 0 l.length none,.lit (.slice none 0 0)]),(350001,.row .chunk l)])
   (fun (l,r,p,u)=>p ≤ b.length ∧ l.length + r ≤ 256 ∧ l ++ (manyR (chunkBR b 5000) r ⟨p,u⟩).1 = cs ∧ (manyR (chunkBR b 5000) r ⟨p,u⟩).2 = ⟨cp,cb⟩) (fun (l,r,p,u)=>r) ([],nc.toNat,np,nb) ⟨k4,by show 0 + nc.toNat ≤ 256;omega,(congrArg Prod.fst ec).symm,(congrArg Prod.snd ec).symm⟩ ?_ ?_
 · conv=>whnf
   repeat' (first|exact trivial|((first|((first|refine hT _ _ ?_|refine hE _ _ _ ?_|refine hN _ _ ?_);clear hN hE hT)|((first|refine hX ?_|refine hY ?_);clear hX hY)|refine kL ?_|(refine ⟨fun hb=>?_,fun hb=>?_⟩<;>(try simp only [nrm] at hb)<;>(try (first|(exfalso;omega)|contradiction|exact kB hb)))|refine kW cfg_ok ?_|refine kC ?_|refine bdA ?_|refine bd2 ?_|refine bdR ?_|refine bdL ?_)<;>((repeat (first|(with_reducible refine evCut fun N hN hE hT=>?_)|(with_reducible refine evBlk fun N hN hE hT=>?_)));(try with_reducible refine evCnd fun X Y hX hY=>?_);(conv=>whnf)))|(refine And.intro ?_ ?_;rotate_left;(conv=>whnf);rotate_right))
   all_goals first|rfl|exact List.take_length|exact List.take_of_length_le (by rw [List.drop_zero];omega)|(dsimp only;exact congrArg (Value.int _) (by omega))|exact congrArg (Value.int _) (by omega)|exact row_grow (t:=.chunk)|exact row_grow (t:=.player)|trace_state
 · rintro ⟨l,r,p,u⟩ ⟨i1,i2,i3,i4⟩
   try dsimp only at i1 i2 i3 i4
   by_cases hlive : 0 < r ∧ u = false
   · obtain ⟨hr0,rfl⟩:=hlive
     obtain ⟨r,rfl⟩ : ∃ r' : Nat,r = r' + 1:=⟨r - 1,by omega⟩
     rw [many_next rfl,chunkBR_eq rfl h8 i1] at i3 i4
     have q1:=r01getB_api b p 5000 h8 hl i1 (by omega) _ rfl
     obtain ⟨o1,o2,o3,_⟩:=gbN_ok h8 (most:=5000) i1
     dsimp only at i3 i4
     generalize gbN b p 5000 = B at *
     obtain ⟨bl,bf,be⟩:=B
     dsimp only at *
     have q2:=r11read_api bl o1 (by omega) _ rfl
     generalize readC bl = C at *
     obtain ⟨c,ce⟩:=C
     dsimp only at *
     by_cases hf : be = 0 ∧ ce = 0
     · rw [if_pos hf] at i3 i4
       obtain ⟨rfl,rfl⟩:=hf
       conv=>whnf
       repeat' (first|exact trivial|((first|((first|refine hT _ _ ?_|refine hE _ _ _ ?_|refine hN _ _ ?_);clear hN hE hT)|((first|refine hX ?_|refine hY ?_);clear hX hY)|refine kL ?_|(refine ⟨fun hb=>?_,fun hb=>?_⟩<;>(try simp only [nrm] at hb)<;>(try (first|(exfalso;omega)|contradiction|exact kB hb)))|refine kA q1 ?_|refine kD q1 ?_|refine kA q2 ?_|refine kD q2 ?_|refine kW cfg_ok ?_|refine kC ?_|refine bdA ?_|refine bd2 ?_|refine bdR ?_|refine bdL ?_)<;>((repeat (first|(with_reducible refine evCut fun N hN hE hT=>?_)|(with_reducible refine evBlk fun N hN hE hT=>?_)));(try with_reducible refine evCnd fun X Y hX hY=>?_);(conv=>whnf)))|(refine And.intro ?_ ?_;rotate_left;(conv=>whnf);rotate_right))
       refine .to (l ++ [c],r,bf,false) ⟨o3,by show (l ++ [_]).length + r ≤ 256;rw [List.length_append,List.length_singleton];omega,by rw [List.append_assoc];exact i3,i4⟩ (by first|omega|(dsimp only;omega)) ?_
       conv=>whnf
       repeat' (first|exact trivial|((first|((first|refine hT _ _ ?_|refine hE _ _ _ ?_|refine hN _ _ ?_);clear hN hE hT)|((first|refine hX ?_|refine hY ?_);clear hX hY)|refine kL ?_|(refine ⟨fun hb=>?_,fun hb=>?_⟩<;>(try simp only [nrm] at hb)<;>(try (first|(exfalso;omega)|contradiction|exact kB hb)))|refine kW cfg_ok ?_|refine kC ?_|refine bdA ?_|refine bd2 ?_|refine bdR ?_|refine bdL ?_)<;>((repeat (first|(with_reducible refine evCut fun N hN hE hT=>?_)|(with_reducible refine evBlk fun N hN hE hT=>?_)));(try with_reducible refine evCnd fun X Y hX hY=>?_);(conv=>whnf)))|(refine And.intro ?_ ?_;rotate_left;(conv=>whnf);rotate_right))
       all_goals first|rfl|exact List.take_length|exact List.take_of_length_le (by rw [List.drop_zero];omega)|(dsimp only;exact congrArg (Value.int _) (by omega))|exact congrArg (Value.int _) (by omega)|exact row_grow (t:=.chunk)|exact row_grow (t:=.player)|trace_state
     · rw [if_neg hf] at i3 i4
       have hf2 : be = 0 → ¬ ce = 0:=fun h1 h2=>hf ⟨h1,h2⟩
       clear hf
       conv=>whnf
       repeat' (first|exact trivial|((first|((first|refine hT _ _ ?_|refine hE _ _ _ ?_|refine hN _ _ ?_);clear hN hE hT)|((first|refine hX ?_|refine hY ?_);clear hX hY)|refine kL ?_|(refine ⟨fun hb=>?_,fun hb=>?_⟩<;>(try simp only [nrm] at hb)<;>(try (first|(exfalso;omega)|contradiction|exact kB hb)))|refine kA q1 ?_|refine kD q1 ?_|refine kA q2 ?_|refine kD q2 ?_|refine kW cfg_ok ?_|refine kC ?_|refine bdA ?_|refine bd2 ?_|refine bdR ?_|refine bdL ?_)<;>((repeat (first|(with_reducible refine evCut fun N hN hE hT=>?_)|(with_reducible refine evBlk fun N hN hE hT=>?_)));(try with_reducible refine evCnd fun X Y hX hY=>?_);(conv=>whnf)))|(refine And.intro ?_ ?_;rotate_left;(conv=>whnf);rotate_right))
       all_goals first|(exact absurd ‹ce = 0› (hf2 (by assumption)))|skip
       all_goals
         refine .to (l ++ [c],r,p,true) ⟨i1,by show (l ++ [_]).length + r ≤ 256;rw [List.length_append,List.length_singleton];omega,by rw [List.append_assoc];exact i3,i4⟩ (by first|omega|(dsimp only;omega)) ?_
         conv=>whnf
         repeat' (first|exact trivial|((first|((first|refine hT _ _ ?_|refine hE _ _ _ ?_|refine hN _ _ ?_);clear hN hE hT)|((first|refine hX ?_|refine hY ?_);clear hX hY)|refine kL ?_|(refine ⟨fun hb=>?_,fun hb=>?_⟩<;>(try simp only [nrm] at hb)<;>(try (first|(exfalso;omega)|contradiction|exact kB hb)))|refine kW cfg_ok ?_|refine kC ?_|refine bdA ?_|refine bd2 ?_|refine bdR ?_|refine bdL ?_)<;>((repeat (first|(with_reducible refine evCut fun N hN hE hT=>?_)|(with_reducible refine evBlk fun N hN hE hT=>?_)));(try with_reducible refine evCnd fun X Y hX hY=>?_);(conv=>whnf)))|(refine And.intro ?_ ?_;rotate_left;(conv=>whnf);rotate_right))
       all_goals first|rfl|exact List.take_length|exact List.take_of_length_le (by rw [List.drop_zero];omega)|(dsimp only;exact congrArg (Value.int _) (by omega))|exact congrArg (Value.int _) (by omega)|exact row_grow (t:=.chunk)|exact row_grow (t:=.player)|trace_state
   · rw [many_dead hlive] at i3 i4
     obtain rfl : cs = l:=by rw [← i3];simp
     obtain ⟨d2,d3⟩:=Rd.mk.inj i4
     obtain rfl : cp = p:=d2.symm
     obtain rfl : cb = u:=d3.symm
     clear i3 i4 d2 d3
     conv=>whnf
     repeat' (first|exact trivial|((first|((first|refine hT _ _ ?_|refine hE _ _ _ ?_|refine hN _ _ ?_);clear hN hE hT)|((first|refine hX ?_|refine hY ?_);clear hX hY)|refine kL ?_|(refine ⟨fun hb=>?_,fun hb=>?_⟩<;>(try simp only [nrm] at hb)<;>(try (first|(exfalso;omega)|contradiction|exact kB hb)))|refine kE g6 [(0,32)] rfl ?_ (hrd:=⟨rfl,trivial⟩)|refine kF g6 [(0,32)] rfl ?_ (hrd:=⟨rfl,trivial⟩)|refine kW cfg_ok ?_|refine kC ?_|refine bdA ?_|refine bd2 ?_|refine bdR ?_|refine bdL ?_)<;>((repeat (first|(with_reducible refine evCut fun N hN hE hT=>?_)|(with_reducible refine evBlk fun N hN hE hT=>?_)));(try with_reducible refine evCnd fun X Y hX hY=>?_);(conv=>whnf)))|(refine And.intro ?_ ?_;rotate_left;(conv=>whnf);rotate_right))
     all_goals (try (exact absurd ⟨by omega,by simpa using hb⟩ hlive))
     all_goals
       refine Runs.loopS cfg_ok (σ:=List (El .player) × Nat × Nat × Bool) [0,2,4,5,12] (fun (l,r,p,u)=>[.vec .u8 b,.ptr 4 0,.ptr 32 0,.ptr 10 0,.lit (.int .u64 r)]) (fun (l,r,p,u)=>[(4,.box (wldC zeroW)),(32,.box [.vec .u8 b,i64 p,bol u]),(10,.box [i64 sz,.lit (.int .u64 sd),i64 tk,.vec .chunk cs,.own .player 350003 0 l.length none]),(350003,.row .player l)])
         (fun (l,r,p,u)=>p ≤ b.length ∧ l.length + r ≤ 32 ∧ l ++ (manyR (plM b) r ⟨p,u⟩).1 = ps ∧ (manyR (plM b) r ⟨p,u⟩).2 = ⟨sp,sb⟩) (fun (l,r,p,u)=>r) ([],no.toNat,mp,mb) ⟨k6,by show 0 + no.toNat ≤ 32;omega,(congrArg Prod.fst es).symm,(congrArg Prod.snd es).symm⟩ ?_ ?_
       · conv=>whnf
         repeat' (first|exact trivial|((first|((first|refine hT _ _ ?_|refine hE _ _ _ ?_|refine hN _ _ ?_);clear hN hE hT)|((first|refine hX ?_|refine hY ?_);clear hX hY)|refine kL ?_|(refine ⟨fun hb=>?_,fun hb=>?_⟩<;>(try simp only [nrm] at hb)<;>(try (first|(exfalso;omega)|contradiction|exact kB hb)))|refine kW cfg_ok ?_|refine kC ?_|refine bdA ?_|refine bd2 ?_|refine bdR ?_|refine bdL ?_)<;>((repeat (first|(with_reducible refine evCut fun N hN hE hT=>?_)|(with_reducible refine evBlk fun N hN hE hT=>?_)));(try with_reducible refine evCnd fun X Y hX hY=>?_);(conv=>whnf)))|(refine And.intro ?_ ?_;rotate_left;(conv=>whnf);rotate_right))
         all_goals first|rfl|exact List.take_length|exact List.take_of_length_le (by rw [List.drop_zero];omega)|(dsimp only;exact congrArg (Value.int _) (by omega))|exact congrArg (Value.int _) (by omega)|exact row_grow (t:=.chunk)|exact row_grow (t:=.player)|trace_state
       · rintro ⟨l,r2,p,u⟩ ⟨i1,i2,i3,i4⟩
         try dsimp only at i1 i2 i3 i4
         by_cases hlive2 : 0 < r2 ∧ u = false
         · as_aux_lemma =>
             obtain ⟨hr0,rfl⟩:=hlive2
             obtain ⟨r2,rfl⟩ : ∃ r' : Nat,r2 = r' + 1:=⟨r2 - 1,by omega⟩
             rw [many_next rfl] at i3 i4
             obtain ⟨x1,h1⟩ : ∃ X,numI b 1073741824 ⟨p,false⟩ = X:=⟨_,rfl⟩
             obtain ⟨x2,h2⟩ : ∃ X,numI b 1000 x1.2 = X:=⟨_,rfl⟩
             obtain ⟨x3,h3⟩ : ∃ X,numI b 1000 x2.2 = X:=⟨_,rfl⟩
             obtain ⟨x4,h4⟩ : ∃ X,manyR (slotR b) 8 x3.2 = X:=⟨_,rfl⟩
             obtain ⟨x5,h5⟩ : ∃ X,numI b 1073741825 x4.2 = X:=⟨_,rfl⟩
             obtain ⟨x6,h6⟩ : ∃ X,numI b 1 x5.2 = X:=⟨_,rfl⟩
             obtain ⟨x7,h7⟩ : ∃ X,offM b x5.1 x6.2 = X:=⟨_,rfl⟩
             rw [plM_eq h1 h2 h3 h4 h5 h6 h7] at i3 i4
             have p1 : x1.2.pos ≤ b.length:=by rw [← h1];exact numI_pos h8 i1
             have p2 : x2.2.pos ≤ b.length:=by rw [← h2];exact numI_pos h8 p1
             have p3 : x3.2.pos ≤ b.length:=by rw [← h3];exact numI_pos h8 p2
             have p4 : x4.2.pos ≤ b.length:=by rw [← h4];exact many_pos (fun s hs=>slotR_pos h8 hs) 8 _ p3
             have p5 : x5.2.pos ≤ b.length:=by rw [← h5];exact numI_pos h8 p4
             have p6 : x6.2.pos ≤ b.length:=by rw [← h6];exact numI_pos h8 p5
             have p7 : x7.2.pos ≤ b.length:=by rw [← h7];exact offM_pos h8 p6
             have b1 : 0 ≤ x1.1 ∧ x1.1 ≤ (1073741824 : Nat):=by rw [← h1];exact numI_le
             have b2 : 0 ≤ x2.1 ∧ x2.1 ≤ (1000 : Nat):=by rw [← h2];exact numI_le
             have b3 : 0 ≤ x3.1 ∧ x3.1 ≤ (1000 : Nat):=by rw [← h3];exact numI_le
             have b5 : 0 ≤ x5.1 ∧ x5.1 ≤ (1073741825 : Nat):=by rw [← h5];exact numI_le
             have g1:=r13num_ev b ⟨p,false⟩ 1073741824 h8 hl i1
             have g2:=r13num_ev b x1.2 1000 h8 hl p1
             have g3:=r13num_ev b x2.2 1000 h8 hl p2
             have g4:=r13slotsR_ev b x3.2 8 (by omega) h8 hl p3
             have g5:=r13num_ev b x4.2 1073741825 h8 hl p4
             have g7:=r13num_ev b x5.2 1 h8 hl p5
             have g8:=r13slotsR_ev b x6.2 8 (by omega) h8 hl p6
             rw [h1] at g1;rw [h2] at g2;rw [h3] at g3;rw [h4] at g4;rw [h5] at g5;rw [h6] at g7
             have hoff : (x5.1 - 1 = -1 ∧ x7 = ([],x6.2)) ∨ (¬ x5.1 - 1 = -1 ∧ x7 = manyR (slotR b) 8 x6.2):=by
               unfold offM at h7
               by_cases h : 0 ≤ x5.1 - 1
               · rw [if_pos h] at h7;exact .inr ⟨by omega,h7.symm⟩
               · rw [if_neg h] at h7;exact .inl ⟨by omega,h7.symm⟩
             clear h1 h2 h3 h4 h5 h6 h7
             obtain ⟨v1,e1,f1⟩:=x1
             obtain ⟨v2,e2,f2⟩:=x2
             obtain ⟨v3,e3,f3⟩:=x3
             obtain ⟨v4,e4,f4⟩:=x4
             obtain ⟨v5,e5,f5⟩:=x5
             obtain ⟨v6,e6,f6⟩:=x6
             dsimp only at *
             change Ev1 _ _ _ [(0,.box [.vec .u8 b,i64 p,bol false])] _ [(0,.box [.vec .u8 b,i64 e1,bol f1])] at g1
             change Ev1 _ _ _ [(0,.box [.vec .u8 b,i64 e1,bol f1])] _ [(0,.box [.vec .u8 b,i64 e2,bol f2])] at g2
             change Ev1 _ _ _ [(0,.box [.vec .u8 b,i64 e2,bol f2])] _ [(0,.box [.vec .u8 b,i64 e3,bol f3])] at g3
             change Ev1 _ _ _ [(0,.box [.vec .u8 b,i64 e3,bol f3])] _ [(0,.box [.vec .u8 b,i64 e4,bol f4])] at g4
             change Ev1 _ _ _ [(0,.box [.vec .u8 b,i64 e4,bol f4])] _ [(0,.box [.vec .u8 b,i64 e5,bol f5])] at g5
             change Ev1 _ _ _ [(0,.box [.vec .u8 b,i64 e5,bol f5])] _ [(0,.box [.vec .u8 b,i64 e6,bol f6])] at g7
             rcases hoff with ⟨ho,hx⟩|⟨ho,hx⟩
             · rw [hx] at i3 i4 p7
               clear g8 hx
               dsimp only at *
               show ev _ _ _ _ _ _ _
               (repeat (first|(with_reducible refine evCut fun N hN hE hT=>?_)|(with_reducible refine evBlk fun N hN hE hT=>?_)));(try with_reducible refine evCnd fun X Y hX hY=>?_);(conv=>whnf)
               repeat' (first|exact trivial|((first|((first|refine hT _ _ ?_|refine hE _ _ _ ?_|refine hN _ _ ?_);clear hN hE hT)|((first|refine hX ?_|refine hY ?_);clear hX hY)|refine kL ?_|(refine ⟨fun hb=>?_,fun hb=>?_⟩<;>(try simp only [nrm] at hb)<;>(try (first|(exfalso;omega)|contradiction|exact kB hb)))|refine kE g1 [(0,32)] rfl ?_ (hrd:=⟨rfl,trivial⟩)|refine kF g1 [(0,32)] rfl ?_ (hrd:=⟨rfl,trivial⟩)|refine kE g2 [(0,32)] rfl ?_ (hrd:=⟨rfl,trivial⟩)|refine kF g2 [(0,32)] rfl ?_ (hrd:=⟨rfl,trivial⟩)|refine kE g3 [(0,32)] rfl ?_ (hrd:=⟨rfl,trivial⟩)|refine kF g3 [(0,32)] rfl ?_ (hrd:=⟨rfl,trivial⟩)|refine kE g4 [(0,32)] rfl ?_ (hrd:=⟨rfl,trivial⟩)|refine kF g4 [(0,32)] rfl ?_ (hrd:=⟨rfl,trivial⟩)|refine kE g5 [(0,32)] rfl ?_ (hrd:=⟨rfl,trivial⟩)|refine kF g5 [(0,32)] rfl ?_ (hrd:=⟨rfl,trivial⟩)|refine kE g7 [(0,32)] rfl ?_ (hrd:=⟨rfl,trivial⟩)|refine kF g7 [(0,32)] rfl ?_ (hrd:=⟨rfl,trivial⟩)|refine kW cfg_ok ?_|refine kC ?_|refine bdA ?_|refine bd2 ?_|refine bdR ?_|refine bdL ?_)<;>((repeat (first|(with_reducible refine evCut fun N hN hE hT=>?_)|(with_reducible refine evBlk fun N hN hE hT=>?_)));(try with_reducible refine evCnd fun X Y hX hY=>?_);(conv=>whnf)))|(refine And.intro ?_ ?_;rotate_left;(conv=>whnf);rotate_right))
               refine .to (l ++ [⟨v1,v2,v3,v4,v5 - 1,[],decide (v6 = 1)⟩],r2,e6,f6) ⟨p7,by show (l ++ [_]).length + r2 ≤ 32;rw [List.length_append,List.length_singleton];omega,by rw [List.append_assoc];exact i3,i4⟩ (by first|omega|(dsimp only;omega)) ?_
               conv=>whnf
               repeat' (first|exact trivial|((first|((first|refine hT _ _ ?_|refine hE _ _ _ ?_|refine hN _ _ ?_);clear hN hE hT)|((first|refine hX ?_|refine hY ?_);clear hX hY)|refine kL ?_|(refine ⟨fun hb=>?_,fun hb=>?_⟩<;>(try simp only [nrm] at hb)<;>(try (first|(exfalso;omega)|contradiction|exact kB hb)))|refine kW cfg_ok ?_|refine kC ?_|refine bdA ?_|refine bd2 ?_|refine bdR ?_|refine bdL ?_)<;>((repeat (first|(with_reducible refine evCut fun N hN hE hT=>?_)|(with_reducible refine evBlk fun N hN hE hT=>?_)));(try with_reducible refine evCnd fun X Y hX hY=>?_);(conv=>whnf)))|(refine And.intro ?_ ?_;rotate_left;(conv=>whnf);rotate_right))
               all_goals first|rfl|exact List.take_length|exact List.take_of_length_le (by rw [List.drop_zero];omega)|(dsimp only;exact congrArg (Value.int _) (by omega))|exact congrArg (Value.int _) (by omega)|exact row_grow (t:=.chunk)|exact row_grow (t:=.player)|trace_state
             · rw [hx] at i3 i4 p7
               generalize manyR (slotR b) 8 ⟨e6,f6⟩ = x8 at *
               obtain ⟨v8,e8,f8⟩:=x8
               clear hx
               dsimp only at *
               change Ev1 _ _ _ [(0,.box [.vec .u8 b,i64 e6,bol f6])] _ [(0,.box [.vec .u8 b,i64 e8,bol f8])] at g8
               show ev _ _ _ _ _ _ _
               (repeat (first|(with_reducible refine evCut fun N hN hE hT=>?_)|(with_reducible refine evBlk fun N hN hE hT=>?_)));(try with_reducible refine evCnd fun X Y hX hY=>?_);(conv=>whnf)
               repeat' (first|exact trivial|((first|((first|refine hT _ _ ?_|refine hE _ _ _ ?_|refine hN _ _ ?_);clear hN hE hT)|((first|refine hX ?_|refine hY ?_);clear hX hY)|refine kL ?_|(refine ⟨fun hb=>?_,fun hb=>?_⟩<;>(try simp only [nrm] at hb)<;>(try (first|(exfalso;omega)|contradiction|exact kB hb)))|refine kE g1 [(0,32)] rfl ?_ (hrd:=⟨rfl,trivial⟩)|refine kF g1 [(0,32)] rfl ?_ (hrd:=⟨rfl,trivial⟩)|refine kE g2 [(0,32)] rfl ?_ (hrd:=⟨rfl,trivial⟩)|refine kF g2 [(0,32)] rfl ?_ (hrd:=⟨rfl,trivial⟩)|refine kE g3 [(0,32)] rfl ?_ (hrd:=⟨rfl,trivial⟩)|refine kF g3 [(0,32)] rfl ?_ (hrd:=⟨rfl,trivial⟩)|refine kE g4 [(0,32)] rfl ?_ (hrd:=⟨rfl,trivial⟩)|refine kF g4 [(0,32)] rfl ?_ (hrd:=⟨rfl,trivial⟩)|refine kE g5 [(0,32)] rfl ?_ (hrd:=⟨rfl,trivial⟩)|refine kF g5 [(0,32)] rfl ?_ (hrd:=⟨rfl,trivial⟩)|refine kE g7 [(0,32)] rfl ?_ (hrd:=⟨rfl,trivial⟩)|refine kF g7 [(0,32)] rfl ?_ (hrd:=⟨rfl,trivial⟩)|refine kE g8 [(0,32)] rfl ?_ (hrd:=⟨rfl,trivial⟩)|refine kF g8 [(0,32)] rfl ?_ (hrd:=⟨rfl,trivial⟩)|refine kW cfg_ok ?_|refine kC ?_|refine bdA ?_|refine bd2 ?_|refine bdR ?_|refine bdL ?_)<;>((repeat (first|(with_reducible refine evCut fun N hN hE hT=>?_)|(with_reducible refine evBlk fun N hN hE hT=>?_)));(try with_reducible refine evCnd fun X Y hX hY=>?_);(conv=>whnf)))|(refine And.intro ?_ ?_;rotate_left;(conv=>whnf);rotate_right))
               refine .to (l ++ [⟨v1,v2,v3,v4,v5 - 1,v8,decide (v6 = 1)⟩],r2,e8,f8) ⟨p7,by show (l ++ [_]).length + r2 ≤ 32;rw [List.length_append,List.length_singleton];omega,by rw [List.append_assoc];exact i3,i4⟩ (by first|omega|(dsimp only;omega)) ?_
               conv=>whnf
               repeat' (first|exact trivial|((first|((first|refine hT _ _ ?_|refine hE _ _ _ ?_|refine hN _ _ ?_);clear hN hE hT)|((first|refine hX ?_|refine hY ?_);clear hX hY)|refine kL ?_|(refine ⟨fun hb=>?_,fun hb=>?_⟩<;>(try simp only [nrm] at hb)<;>(try (first|(exfalso;omega)|contradiction|exact kB hb)))|refine kW cfg_ok ?_|refine kC ?_|refine bdA ?_|refine bd2 ?_|refine bdR ?_|refine bdL ?_)<;>((repeat (first|(with_reducible refine evCut fun N hN hE hT=>?_)|(with_reducible refine evBlk fun N hN hE hT=>?_)));(try with_reducible refine evCnd fun X Y hX hY=>?_);(conv=>whnf)))|(refine And.intro ?_ ?_;rotate_left;(conv=>whnf);rotate_right))
               all_goals first|rfl|exact List.take_length|exact List.take_of_length_le (by rw [List.drop_zero];omega)|(dsimp only;exact congrArg (Value.int _) (by omega))|exact congrArg (Value.int _) (by omega)|exact row_grow (t:=.chunk)|exact row_grow (t:=.player)|trace_state
         · rw [many_dead hlive2] at i3 i4
           obtain rfl : ps = l:=by rw [← i3];simp
           obtain ⟨d2,d3⟩:=Rd.mk.inj i4
           obtain rfl : sp = p:=d2.symm
           obtain rfl : sb = u:=d3.symm
           clear i3 i4 d2 d3
           conv=>whnf
           repeat' (first|exact trivial|((first|((first|refine hT _ _ ?_|refine hE _ _ _ ?_|refine hN _ _ ?_);clear hN hE hT)|((first|refine hX ?_|refine hY ?_);clear hX hY)|refine kL ?_|(refine ⟨fun hb=>?_,fun hb=>?_⟩<;>(try simp only [nrm] at hb)<;>(try (first|(exfalso;omega)|contradiction|exact kB hb)))|refine kE hr2 [(1,350003)] rfl ?_ (hrd:=⟨rfl,trivial⟩)|refine kF hr2 [(1,350003)] rfl ?_ (hrd:=⟨rfl,trivial⟩)|refine kW cfg_ok ?_|refine kC ?_|refine bdA ?_|refine bd2 ?_|refine bdR ?_|refine bdL ?_)<;>((repeat (first|(with_reducible refine evCut fun N hN hE hT=>?_)|(with_reducible refine evBlk fun N hN hE hT=>?_)));(try with_reducible refine evCnd fun X Y hX hY=>?_);(conv=>whnf)))|(refine And.intro ?_ ?_;rotate_left;(conv=>whnf);rotate_right))
           all_goals (try (exact absurd ⟨by omega,by simpa using hb⟩ hlive2))
           all_goals first|(rw [W1 (by assumption)];first|done|rfl)|(rw [W2' (by assumption)];first|done|rfl)|(rw [W3 (by assumption)];first|done|rfl)|(rw [W4' (by assumption) (by assumption) (by assumption)];first|done|rfl|exact List.take_length)|trace_state
end Go.Proofs.YtaecchphjploaaaGreat
