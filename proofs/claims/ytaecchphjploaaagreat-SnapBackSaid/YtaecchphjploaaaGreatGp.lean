/- snap.Take. -/
import Derived.Test.YtaecchphjploaaaGreatGn
import Derived.Test.YtaecchphjploaaaGreatGo
set_option linter.unusedSimpArgs false
set_option linter.unusedVariables false
set_option maxRecDepth 100000
set_option maxHeartbeats 16000000
namespace Go.Proofs.YtaecchphjploaaaGreat
open Go Go.RowKit Eng
theorem slotM_pos {b : List Int} (hb : okU8 b) {most : Nat} {s : Rd} (hp : s.pos ≤ b.length) : (slotM b most s).2.pos ≤ b.length:=numI_pos hb (numI_pos hb hp)
theorem slotM_bd {b : List Int} {most : Nat} {s : Rd} : (0 ≤ (slotM b most s).1.item ∧ (slotM b most s).1.item ≤ 255) ∧ 0 ≤ (slotM b most s).1.n ∧ (slotM b most s).1.n ≤ most:=⟨numI_le,numI_le⟩
theorem all_pos {α : Type} {b : List Int} {f : Rd → α × Rd} (h : ∀ s,s.pos ≤ b.length → (f s).2.pos ≤ b.length) : ∀ (n : Nat) (s : Rd),s.pos ≤ b.length → (allR f n s).2.pos ≤ b.length
 | 0,_,hp=>hp
 | n + 1,s,hp=>all_pos h n (f s).2 (h s hp)
theorem rslots_ev (b : List (El .u8)) (s : Rd) (h8 : okU8 b) (hl : b.length ≤ 1000000000000) (hp : s.pos ≤ b.length) : Ev1 Tryz.prog 101 [.ptr 0 0] [(0,.box (rdC b s))] (.vec .slot (allR (slotM b B40) 8 s).1) [(0,.box (rdC b (allR (slotM b B40) 8 s).2))]:=by
 refine Ev1.of_fin cfg_ok Tryz.func101 rfl (nt:=18) rfl rfl rfl ?_
 conv=>whnf
 refine Runs.loopS cfg_ok (σ:=List (El .slot) × Nat × Bool) [0,3,5] (fun (l,t,u)=>[.ptr 0 0,.own .slot 200033 0 l.length none,i64 l.length]) (fun (l,t,u)=>[(0,.box [.vec .u8 b,i64 t,bol u]),(200033,.row .slot l)])
   (fun (l,t,u)=>l.length ≤ 8 ∧ t ≤ b.length ∧ (l ++ (allR (slotM b B40) (8 - l.length) ⟨t,u⟩).1,(allR (slotM b B40) (8 - l.length) ⟨t,u⟩).2) = allR (slotM b B40) 8 s) (fun (l,t,u)=>8 - l.length) ([],s.pos,s.bad) ⟨by simp,hp,rfl⟩ ?_ ?_
 · conv=>whnf
   repeat' (first|exact trivial|((first|refine kL ?_|(refine ⟨fun hb=>?_,fun hb=>?_⟩<;>(try simp only [nrm] at hb)<;>(try (first|(exfalso;omega)|contradiction|exact kB hb)))|refine kW cfg_ok ?_|refine kC ?_|refine bdA ?_|refine bd2 ?_|refine bdR ?_|refine bdL ?_)<;>(conv=>whnf))|(refine And.intro ?_ ?_;rotate_left;(conv=>whnf);rotate_right))
   all_goals rfl
 · rintro ⟨l,t,u⟩ ⟨m1,m2,m3⟩
   try dsimp only at m1 m2 m3
   by_cases hl8 : l.length < 8
   · have g1:=snum_ev b ⟨t,u⟩ 255 h8 hl m2 (by omega)
     have g2:=snum_ev b (numI b 255 ⟨t,u⟩).2 B40 h8 hl (numI_pos h8 m2) (by decide)
     have g3 : (slotM b B40 ⟨t,u⟩).2.pos ≤ b.length:=slotM_pos h8 m2
     have g4 : allR (slotM b B40) (8 - l.length) ⟨t,u⟩ = ((slotM b B40 ⟨t,u⟩).1 :: (allR (slotM b B40) (8 - (l.length + 1)) (slotM b B40 ⟨t,u⟩).2).1,(allR (slotM b B40) (8 - (l.length + 1)) (slotM b B40 ⟨t,u⟩).2).2):=by
       rw [show 8 - l.length = (8 - (l.length + 1)) + 1 by omega];rfl
     have g5 : slotM b B40 ⟨t,u⟩ = (⟨(numI b 255 ⟨t,u⟩).1,(numI b B40 (numI b 255 ⟨t,u⟩).2).1⟩,(numI b B40 (numI b 255 ⟨t,u⟩).2).2):=rfl
     obtain ⟨q1,q2⟩:=numI_le (b:=b) (most:=255) (s:=⟨t,u⟩)
     rw [g4] at m3
     rw [g5] at m3 g3
     clear g4 g5
     generalize numI b 255 ⟨t,u⟩ = C at *
     generalize numI b B40 C.2 = E at *
     obtain ⟨c,cp,cb⟩:=C
     obtain ⟨e,ep,eb⟩:=E
     try dsimp only at *
     change Ev1 _ _ _ [(0,.box [.vec .u8 b,i64 t,bol u])] _ [(0,.box [.vec .u8 b,i64 cp,bol cb])] at g1
     change Ev1 _ _ _ [(0,.box [.vec .u8 b,i64 cp,bol cb])] _ [(0,.box [.vec .u8 b,i64 ep,bol eb])] at g2
     conv=>whnf
     repeat' (first|exact trivial|((first|refine kL ?_|(refine ⟨fun hb=>?_,fun hb=>?_⟩<;>(try simp only [nrm] at hb)<;>(try (first|(exfalso;omega)|contradiction|exact kB hb)))|refine kE g1 [(0,0)] rfl ?_ (hrd:=⟨rfl,trivial⟩)|refine kF g1 [(0,0)] rfl ?_ (hrd:=⟨rfl,trivial⟩)|refine kE g2 [(0,0)] rfl ?_ (hrd:=⟨rfl,trivial⟩)|refine kF g2 [(0,0)] rfl ?_ (hrd:=⟨rfl,trivial⟩)|refine kW cfg_ok ?_|refine kC ?_|refine bdA ?_|refine bd2 ?_|refine bdR ?_|refine bdL ?_)<;>(conv=>whnf))|(refine And.intro ?_ ?_;rotate_left;(conv=>whnf);rotate_right))
     refine .to (l ++ [⟨c,e⟩],ep,eb) ⟨by rw [List.length_append,List.length_singleton];omega,g3,by rw [List.append_assoc,List.length_append,List.length_singleton];exact m3⟩ (by first|(rw [List.length_append,List.length_singleton];omega)|(dsimp only;rw [List.length_append,List.length_singleton];omega)) ?_
     conv=>whnf
     repeat' (first|exact trivial|((first|refine kL ?_|(refine ⟨fun hb=>?_,fun hb=>?_⟩<;>(try simp only [nrm] at hb)<;>(try (first|(exfalso;omega)|contradiction|exact kB hb)))|refine kW cfg_ok ?_|refine kC ?_|refine bdA ?_|refine bd2 ?_|refine bdR ?_|refine bdL ?_)<;>(conv=>whnf))|(refine And.intro ?_ ?_;rotate_left;(conv=>whnf);rotate_right))
     all_goals first|exact row_grow (t:=.slot)|exact congrArg (Value.int _) (by simp)|(simp;done)
   · have hl8 : l.length = 8:=by omega
     rw [hl8] at m3
     have m4 : (l,(⟨t,u⟩ : Rd)) = allR (slotM b B40) 8 s:=by rw [← m3];simp [allR]
     rw [← m4]
     clear m3 m4
     conv=>whnf
     repeat' (first|exact trivial|((first|refine kL ?_|(refine ⟨fun hb=>?_,fun hb=>?_⟩<;>(try simp only [nrm] at hb)<;>(try (first|(exfalso;omega)|contradiction|exact kB hb)))|refine kW cfg_ok ?_|refine kC ?_|refine bdA ?_|refine bd2 ?_|refine bdR ?_|refine bdL ?_)<;>(conv=>whnf))|(refine And.intro ?_ ?_;rotate_left;(conv=>whnf);rotate_right))
     all_goals exact List.take_length
theorem numR_gu {b : List Int} {s : Rd} {most : Nat} (hs : s.bad = false) : numR b most s = if (guN b s.pos).2.2 = 0 ∧ (guN b s.pos).1 ≤ most then ((guN b s.pos).1,⟨(guN b s.pos).2.1,false⟩) else (0,⟨s.pos,true⟩):=by
 unfold numR guN
 rw [if_neg (by rw [hs];simp)]
 cases hg : getF 9 (b.drop s.pos) with
 | none =>
   dsimp only
   have h : ¬ errU (b.drop s.pos) = 0:=by unfold errU;split<;>omega
   rw [if_neg fun x=>h x.1]
 | some p =>
   obtain ⟨n,k⟩:=p
   dsimp only
   by_cases h : n ≤ most
   · rw [if_pos h,if_pos ⟨rfl,h⟩]
   · rw [if_neg h,if_neg fun x=>h x.2]
theorem blobR_gb {b : List Int} {s : Rd} {most : Nat} (hs : s.bad = false) : blobR b most s = if (gbN b s.pos most).2.2 = 0 then ((gbN b s.pos most).1,⟨(gbN b s.pos most).2.1,false⟩) else ([],⟨s.pos,true⟩):=by
 have hN:=numR_gu (b:=b) (most:=most) hs
 unfold blobR gbN
 generalize guN b s.pos = G at *
 obtain ⟨n,f,e⟩:=G
 dsimp only at *
 by_cases c1 : e = 0
 · have n1 : ¬ ¬ e = 0:=fun h=>h c1
   by_cases c2 : most < n
   · have n2 : ¬ (e = 0 ∧ n ≤ most):=by omega
     rw [if_neg n2] at hN
     rw [hN,if_neg n1,if_pos c2]
     rfl
   · have n2 : e = 0 ∧ n ≤ most:=by omega
     rw [if_pos n2] at hN
     rw [hN,if_neg n1,if_neg c2]
     dsimp only
     rw [if_neg (show ¬ (false = true) by simp)]
     by_cases c3 : b.length - f < n
     · rw [if_pos c3,if_pos c3];rfl
     · rw [if_neg c3,if_neg c3];rfl
 · have n2 : ¬ (e = 0 ∧ n ≤ most):=fun h=>c1 h.1
   rw [if_neg n2] at hN
   rw [hN,if_pos c1]
   dsimp only
   rw [if_pos rfl,if_neg c1]
theorem gbN_ok {b : List Int} (hb : okU8 b) {pos most : Nat} (hp : pos ≤ b.length) : okU8 (gbN b pos most).1 ∧ (gbN b pos most).1.length ≤ b.length ∧ (gbN b pos most).2.1 ≤ b.length ∧ (¬ (gbN b pos most).2.2 = 0 → (gbN b pos most).1 = []):=by
 have h1:=(guN_le hb hp).1
 have h0 : okU8 []:=fun i hi=>by cases hi
 unfold gbN
 split
 · exact ⟨h0,Nat.zero_le _,Nat.zero_le _,fun _=>rfl⟩
 · split
   · exact ⟨h0,Nat.zero_le _,Nat.zero_le _,fun _=>rfl⟩
   · split
     · exact ⟨h0,Nat.zero_le _,Nat.zero_le _,fun _=>rfl⟩
     · refine ⟨fun i hi=>hb i (List.mem_of_mem_drop (List.mem_of_mem_take hi)),?_,?_,fun h=>absurd rfl h⟩
       · show (List.take _ (List.drop _ b)).length ≤ _
         rw [List.length_take,List.length_drop];omega
       · show (guN b pos).2.1 + (guN b pos).1 ≤ b.length
         omega
theorem blobS_eq {b : List Int} {x y : Int} {s : Rd} (hs : s.bad = false) (h8 : okU8 b) (hp : s.pos ≤ b.length) : blobS b x y s = ((readC (gbN b s.pos 5000).1).1,if (gbN b s.pos 5000).2.2 = 0 ∧ (readC (gbN b s.pos 5000).1).2 = 0 ∧ (readC (gbN b s.pos 5000).1).1.x = x ∧ (readC (gbN b s.pos 5000).1).1.y = y then ⟨(gbN b s.pos 5000).2.1,false⟩ else ⟨s.pos,true⟩):=by
 have h4:=(gbN_ok h8 (most:=5000) hp).2.2.2
 have hB:=blobR_gb (b:=b) (most:=5000) hs
 unfold blobS
 rw [if_neg (by rw [hs];simp)]
 generalize gbN b s.pos 5000 = G at *
 obtain ⟨B,f,e⟩:=G
 dsimp only at *
 by_cases c1 : e = 0
 · rw [if_pos c1] at hB
   rw [hB]
   dsimp only
   by_cases c2 : (readC B).2 = 0 ∧ (readC B).1.x = x ∧ (readC B).1.y = y
   · have n1 : ¬ (false = true ∨ ¬ (readC B).2 = 0 ∨ ¬ (readC B).1.x = x ∨ ¬ (readC B).1.y = y):=by simp [c2]
     rw [if_neg n1,if_pos ⟨c1,c2⟩]
   · have n1 : false = true ∨ ¬ (readC B).2 = 0 ∨ ¬ (readC B).1.x = x ∨ ¬ (readC B).1.y = y:=by
       right
       by_cases d1 : (readC B).2 = 0
       · right
         by_cases d2 : (readC B).1.x = x
         · right;exact fun d3=>c2 ⟨d1,d2,d3⟩
         · left;exact d2
       · left;exact d1
     have n2 : ¬ (e = 0 ∧ (readC B).2 = 0 ∧ (readC B).1.x = x ∧ (readC B).1.y = y):=fun h=>c2 h.2
     rw [if_pos n1,if_neg n2]
 · rw [if_neg c1] at hB
   have n2 : ¬ (e = 0 ∧ (readC B).2 = 0 ∧ (readC B).1.x = x ∧ (readC B).1.y = y):=fun h=>c1 h.1
   rw [hB,if_neg n2,h4 c1]
   dsimp only
   rw [if_pos (.inl rfl)]
theorem rblob_ev (b : List (El .u8)) (x y : Int) (s : Rd) (h8 : okU8 b) (hl : b.length ≤ 1000000000000) (hp : s.pos ≤ b.length) : Ev1 Tryz.prog 162 [.ptr 0 0,i64 x,i64 y] [(0,.box (rdC b s))] (chunkV (blobS b x y s).1) [(0,.box (rdC b (blobS b x y s).2))]:=by
 cases hs : s.bad with
 | true =>
   have e : blobS b x y s = (emptyK,s):=if_pos hs
   rw [e]
   clear e
   obtain ⟨p,bd⟩:=s
   replace hs : bd = true:=hs
   subst hs
   refine Ev1.of_fin cfg_ok Tryz.func162 rfl (nt:=63) rfl rfl rfl ?_
   conv=>whnf
   repeat' (first|exact trivial|((first|refine kL ?_|(refine ⟨fun hb=>?_,fun hb=>?_⟩<;>(try simp only [nrm] at hb)<;>(try (first|(exfalso;omega)|contradiction|exact kB hb)))|refine kW cfg_ok ?_|refine kC ?_|refine bdA ?_|refine bd2 ?_|refine bdR ?_|refine bdL ?_)<;>(conv=>whnf))|(refine And.intro ?_ ?_;rotate_left;(conv=>whnf);rotate_right))
 | false =>
   rw [blobS_eq hs h8 hp]
   have hg:=getB_api b s.pos 5000 h8 hl hp (by omega)
   obtain ⟨o1,o2,o3,_⟩:=gbN_ok h8 (most:=5000) hp
   obtain ⟨p,bd⟩:=s
   replace hs : bd = false:=hs
   subst hs
   dsimp only at *
   generalize gbN b p 5000 = G at *
   obtain ⟨B,f,e⟩:=G
   dsimp only at *
   have hc:=cread_api B o1 (by omega)
   generalize readC B = R at *
   obtain ⟨c,ce⟩:=R
   dsimp only at *
   by_cases hf : e = 0 ∧ ce = 0 ∧ c.x = x ∧ c.y = y
   · rw [if_pos hf]
     obtain ⟨rfl,rfl,rfl,rfl⟩:=hf
     refine Ev1.of_fin cfg_ok Tryz.func162 rfl (nt:=63) rfl rfl rfl ?_
     ((repeat (first|(with_reducible refine evCut fun N hN hE hT=>?_)|(with_reducible refine evBlk fun N hN hE hT=>?_)));(try with_reducible refine evCnd fun X Y hX hY=>?_);(conv=>whnf))
     repeat' (first|exact trivial|((first|((first|refine hT _ _ ?_|refine hE _ _ _ ?_|refine hN _ _ ?_);clear hN hE hT)|((first|refine hX ?_|refine hY ?_);clear hX hY)|refine kL ?_|(refine ⟨fun hb=>?_,fun hb=>?_⟩<;>(try simp only [nrm] at hb)<;>(try (first|(exfalso;omega)|contradiction|exact kB hb)))|refine kA hg ?_|refine kD hg ?_|refine kA hc ?_|refine kD hc ?_|refine kW cfg_ok ?_|refine kC ?_|refine bdA ?_|refine bd2 ?_|refine bdR ?_|refine bdL ?_)<;>((repeat (first|(with_reducible refine evCut fun N hN hE hT=>?_)|(with_reducible refine evBlk fun N hN hE hT=>?_)));(try with_reducible refine evCnd fun X Y hX hY=>?_);(conv=>whnf)))|(refine And.intro ?_ ?_;rotate_left;(conv=>whnf);rotate_right))
     all_goals first|exact congrArg Value.bool (by simp)|exact congrArg Value.bool (by simp [hb])
   · rw [if_neg hf]
     refine Ev1.of_fin cfg_ok Tryz.func162 rfl (nt:=63) rfl rfl rfl ?_
     ((repeat (first|(with_reducible refine evCut fun N hN hE hT=>?_)|(with_reducible refine evBlk fun N hN hE hT=>?_)));(try with_reducible refine evCnd fun X Y hX hY=>?_);(conv=>whnf))
     repeat' (first|exact trivial|((first|((first|refine hT _ _ ?_|refine hE _ _ _ ?_|refine hN _ _ ?_);clear hN hE hT)|((first|refine hX ?_|refine hY ?_);clear hX hY)|refine kL ?_|(refine ⟨fun hb=>?_,fun hb=>?_⟩<;>(try simp only [nrm] at hb)<;>(try (first|(exfalso;omega)|contradiction|exact kB hb)))|refine kA hg ?_|refine kD hg ?_|refine kA hc ?_|refine kD hc ?_|refine kW cfg_ok ?_|refine kC ?_|refine bdA ?_|refine bd2 ?_|refine bdR ?_|refine bdL ?_)<;>((repeat (first|(with_reducible refine evCut fun N hN hE hT=>?_)|(with_reducible refine evBlk fun N hN hE hT=>?_)));(try with_reducible refine evCnd fun X Y hX hY=>?_);(conv=>whnf)))|(refine And.intro ?_ ?_;rotate_left;(conv=>whnf);rotate_right))
     all_goals first|exact congrArg Value.bool (by simpa using hb)|exact absurd ⟨‹e = 0›,‹ce = 0›,‹c.x = x›,hb⟩ hf
open Go Go.RowKit Eng
theorem sown_ev (c : Chunk) (hc : FitC c) : Ev1 Tryz.prog 163 [chunkV c] [] (.agg (chunkO c 390001 390003 390005)) (chunkR c 390001 390003 390005):=by
 have h1:=hc.cells
 have h2:=hc.heaps
 have h3:=hc.boxes
 refine Ev1.of_fin cfg_ok Tryz.func163 rfl (nt:=35) rfl rfl rfl ?_
 conv=>whnf
 repeat' (first|exact trivial|((first|refine kL ?_|(refine ⟨fun hb=>?_,fun hb=>?_⟩<;>(try simp only [nrm] at hb)<;>(try (first|(exfalso;omega)|contradiction|exact kB hb)))|(refine isE 122 ?_;refine kE (clone_items _ (by omega)) [(390001,350001)] rfl ?_)|(refine isD 122 ?_;refine kF (clone_items _ (by omega)) [(390001,350001)] rfl ?_)|(refine isE 123 ?_;refine kE (clone_heaps _ (by omega)) [(390001,350003)] rfl ?_)|(refine isD 123 ?_;refine kF (clone_heaps _ (by omega)) [(390001,350003)] rfl ?_)|(refine isE 124 ?_;refine kE (clone_boxes _ (by omega)) [(390001,350005)] rfl ?_)|(refine isD 124 ?_;refine kF (clone_boxes _ (by omega)) [(390001,350005)] rfl ?_)|refine kW cfg_ok ?_|refine kC ?_|refine bdA ?_|refine bd2 ?_|refine bdR ?_|refine bdL ?_)<;>(conv=>whnf))|(refine And.intro ?_ ?_;rotate_left;(conv=>whnf);rotate_right))
 refine Runs.loopS cfg_ok (σ:=Nat) [1,2,18,19] (fun k=>[.ptr 200002 0,.ptr 200004 0,i64 c.boxes.length,i64 k]) (fun _=>(200002,.box (chunkO c 350001 350003 350005)) :: (200004,.box (chunkC ⟨0,0,[],[],[]⟩)) :: chunkR c 350001 350003 350005) (fun k=>k ≤ c.boxes.length) (fun k=>c.boxes.length - k) 0 (by omega) ?_ ?_
 · conv=>whnf
   repeat' (first|exact trivial|((first|refine kL ?_|(refine ⟨fun hb=>?_,fun hb=>?_⟩<;>(try simp only [nrm] at hb)<;>(try (first|(exfalso;omega)|contradiction|exact kB hb)))|refine kW cfg_ok ?_|refine kC ?_|refine bdA ?_|refine bd2 ?_|refine bdR ?_|refine bdL ?_)<;>(conv=>whnf))|(refine And.intro ?_ ?_;rotate_left;(conv=>whnf);rotate_right))
   all_goals simp
 · intro k hk
   by_cases hlt : k < c.boxes.length
   · have hbk:=hc.bags _ (elt_mem (t:=.box) hlt)
     conv=>whnf
     repeat' (first|exact trivial|((first|refine kL ?_|(refine ⟨fun hb=>?_,fun hb=>?_⟩<;>(try simp only [nrm] at hb)<;>(try (first|(exfalso;omega)|contradiction|exact kB hb)))|(refine isE 125 ?_;refine kA (cloneV_slots (elt .box c.boxes k).bag (by omega)) ?_)|(refine isD 125 ?_;refine kD (cloneV_slots (elt .box c.boxes k).bag (by omega)) ?_)|refine kW cfg_ok ?_|refine kC ?_|refine bdA ?_|refine bd2 ?_|refine bdR ?_|refine bdL ?_)<;>(conv=>whnf))|(refine And.intro ?_ ?_;rotate_left;(conv=>whnf);rotate_right))
     refine .to (k + 1) hlt (by omega) ?_
     conv=>whnf
     repeat' (first|exact trivial|((first|refine kL ?_|(refine ⟨fun hb=>?_,fun hb=>?_⟩<;>(try simp only [nrm] at hb)<;>(try (first|(exfalso;omega)|contradiction|exact kB hb)))|refine kW cfg_ok ?_|refine kC ?_|refine bdA ?_|refine bd2 ?_|refine bdR ?_|refine bdL ?_)<;>(conv=>whnf))|(refine And.intro ?_ ?_;rotate_left;(conv=>whnf);rotate_right))
     all_goals (try simp only [Int.toNat_natCast,Nat.add_zero,List.length_set])
     all_goals (try rw [set_elt_box])
     all_goals exact List.take_length
   · conv=>whnf
     repeat' (first|exact trivial|((first|refine kL ?_|(refine ⟨fun hb=>?_,fun hb=>?_⟩<;>(try simp only [nrm] at hb)<;>(try (first|(exfalso;omega)|contradiction|exact kB hb)))|refine kW cfg_ok ?_|refine kC ?_|refine bdA ?_|refine bd2 ?_|refine bdR ?_|refine bdL ?_)<;>(conv=>whnf))|(refine And.intro ?_ ?_;rotate_left;(conv=>whnf);rotate_right))
     all_goals simp
theorem blobS_pos {b : List Int} {x y : Int} {s : Rd} (h8 : okU8 b) (hp : s.pos ≤ b.length) : (blobS b x y s).2.pos ≤ b.length:=by
 cases hs : s.bad with
 | true =>
   have e : blobS b x y s = (emptyK,s):=if_pos hs
   rw [e];exact hp
 | false =>
   rw [blobS_eq hs h8 hp]
   dsimp only
   split
   · exact (gbN_ok h8 hp).2.2.1
   · exact hp
theorem cellsR_pos {b : List Int} (h8 : okU8 b) : ∀ (n : Nat) (l : List Int) (s : Rd),s.pos ≤ b.length → (cellsR b n l s).2.pos ≤ b.length
 | 0,_,_,hp=>hp
 | n + 1,l,s,hp=>by
   unfold cellsR
   split
   · exact hp
   · exact cellsR_pos h8 n _ _ (numI_pos h8 (numI_pos h8 hp))
theorem restR_pos {b : List Int} (h8 : okU8 b) {was : Chunk × Bool} {x y fm : Int} {s : Rd} (hp : s.pos ≤ b.length) : (restR b was x y fm s).2.pos ≤ b.length:=by
 unfold restR
 split
 · exact blobS_pos h8 hp
 · split
   · exact hp
   · split
     · exact cellsR_pos h8 _ _ _ (numI_pos h8 hp)
     · exact hp
theorem chunkRS_pos {b : List Int} {v : Viw} (h8 : okU8 b) {s : Rd} (hp : s.pos ≤ b.length) : (chunkRS b v s).2.pos ≤ b.length:=restR_pos h8 (numI_pos h8 (numI_pos h8 (numI_pos h8 hp)))
theorem cells_next {b : List Int} {n : Nat} {l : List Int} {s : Rd} (h : s.bad = false) : cellsR b (n + 1) l s = cellsR b n (l.set (numI b 63 s).1.toNat (numI b 255 (numI b 63 s).2).1) (numI b 255 (numI b 63 s).2).2:=if_neg (by rw [h];simp)
theorem cells_dead {b : List Int} {n : Nat} {l : List Int} {t : Nat} {u : Bool} (h : ¬ (0 < n ∧ u = false)) : cellsR b n l ⟨t,u⟩ = (l,⟨t,u⟩):=by
 cases n with
 | zero=>rfl
 | succ n =>
   have hu : u = true:=by
     cases u with
     | true=>rfl
     | false=>exact absurd ⟨Nat.succ_pos n,rfl⟩ h
   exact if_pos hu
theorem rchunk_ev (b : List (El .u8)) (v : Viw) (s : Rd) (hv : OkV v) (hB : baseB v = true) (h8 : okU8 b) (hl : b.length ≤ 1000000000000) (hp : s.pos ≤ b.length) : Ev1 Tryz.prog 102 [.ptr 0 0,viewV v] [(0,.box (rdC b s))] (chunkV (chunkRS b v s).1) [(0,.box (rdC b (chunkRS b v s).2))]:=by
 have g1:=snum_ev b s B40 h8 hl hp (by decide)
 have e1 : (numI b B40 s).2.pos ≤ b.length:=numI_pos h8 hp
 have g2:=snum_ev b (numI b B40 s).2 B40 h8 hl e1 (by decide)
 have e2 : (numI b B40 (numI b B40 s).2).2.pos ≤ b.length:=numI_pos h8 e1
 have g3:=snum_ev b (numI b B40 (numI b B40 s).2).2 2 h8 hl e2 (by decide)
 have e3 : (numI b 2 (numI b B40 (numI b B40 s).2).2).2.pos ≤ b.length:=numI_pos h8 e2
 have hfd:=vfind_api v (numI b B40 s).1 (numI b B40 (numI b B40 s).2).1 (by have:=hv.nc;omega)
 have hfo:=findV_ok hB (x:=(numI b B40 s).1) (y:=(numI b B40 (numI b B40 s).2).1)
 have e : chunkRS b v s = restR b (findV v (numI b B40 s).1 (numI b B40 (numI b B40 s).2).1) (numI b B40 s).1 (numI b B40 (numI b B40 s).2).1 (numI b 2 (numI b B40 (numI b B40 s).2).2).1 (numI b 2 (numI b B40 (numI b B40 s).2).2).2:=rfl
 rw [e]
 clear e
 generalize numI b B40 s = X at *
 obtain ⟨x,xp,xb⟩:=X
 dsimp only at *
 generalize numI b B40 ⟨xp,xb⟩ = Y at *
 obtain ⟨y,yp,yb⟩:=Y
 dsimp only at *
 generalize numI b 2 ⟨yp,yb⟩ = M at *
 obtain ⟨fm,mp,mb⟩:=M
 dsimp only at *
 generalize findV v x y = W at *
 obtain ⟨was,there⟩:=W
 obtain ⟨sp,sb⟩:=s
 dsimp only at *
 change Ev1 _ _ _ [(0,.box [.vec .u8 b,i64 sp,bol sb])] _ [(0,.box [.vec .u8 b,i64 xp,bol xb])] at g1
 change Ev1 _ _ _ [(0,.box [.vec .u8 b,i64 xp,bol xb])] _ [(0,.box [.vec .u8 b,i64 yp,bol yb])] at g2
 change Ev1 _ _ _ [(0,.box [.vec .u8 b,i64 yp,bol yb])] _ [(0,.box [.vec .u8 b,i64 mp,bol mb])] at g3
 change Ev1 _ _ _ [(0,.box [.vec .u8 b,i64 sp,bol sb])] _ _
 unfold restR
 by_cases c2 : fm = 2
 · rw [if_pos c2]
   subst c2
   have gb:=rblob_ev b x y ⟨mp,mb⟩ h8 hl e3
   generalize blobS b x y ⟨mp,mb⟩ = R at *
   obtain ⟨k,rp,rb⟩:=R
   change Ev1 _ _ _ [(0,.box [.vec .u8 b,i64 mp,bol mb])] _ _ at gb
   dsimp only at *
   refine Ev1.of_fin cfg_ok Tryz.func102 rfl (nt:=67) rfl rfl rfl ?_
   ((repeat (first|(with_reducible refine evCut fun N hN hE hT=>?_)|(with_reducible refine evBlk fun N hN hE hT=>?_)));(try with_reducible refine evCnd fun X Y hX hY=>?_);(conv=>whnf))
   repeat' (first|exact trivial|((first|((first|refine hT _ _ ?_|refine hE _ _ _ ?_|refine hN _ _ ?_);clear hN hE hT)|((first|refine hX ?_|refine hY ?_);clear hX hY)|refine kL ?_|(refine ⟨fun hb=>?_,fun hb=>?_⟩<;>(try simp only [nrm] at hb)<;>(try (first|(exfalso;omega)|contradiction|exact kB hb)))|refine kE g1 [(0,0)] rfl ?_ (hrd:=⟨rfl,trivial⟩)|refine kF g1 [(0,0)] rfl ?_ (hrd:=⟨rfl,trivial⟩)|refine kE g2 [(0,0)] rfl ?_ (hrd:=⟨rfl,trivial⟩)|refine kF g2 [(0,0)] rfl ?_ (hrd:=⟨rfl,trivial⟩)|refine kE g3 [(0,0)] rfl ?_ (hrd:=⟨rfl,trivial⟩)|refine kF g3 [(0,0)] rfl ?_ (hrd:=⟨rfl,trivial⟩)|refine kE gb [(0,0)] rfl ?_ (hrd:=⟨rfl,trivial⟩)|refine kF gb [(0,0)] rfl ?_ (hrd:=⟨rfl,trivial⟩)|refine kA hfd ?_|refine kD hfd ?_|refine kW cfg_ok ?_|refine kC ?_|refine bdA ?_|refine bd2 ?_|refine bdR ?_|refine bdL ?_)<;>((repeat (first|(with_reducible refine evCut fun N hN hE hT=>?_)|(with_reducible refine evBlk fun N hN hE hT=>?_)));(try with_reducible refine evCnd fun X Y hX hY=>?_);(conv=>whnf)))|(refine And.intro ?_ ?_;rotate_left;(conv=>whnf);rotate_right))
   all_goals trace_state
 · rw [if_neg c2]
   cases there with
   | false =>
     rw [if_pos rfl]
     refine Ev1.of_fin cfg_ok Tryz.func102 rfl (nt:=67) rfl rfl rfl ?_
     ((repeat (first|(with_reducible refine evCut fun N hN hE hT=>?_)|(with_reducible refine evBlk fun N hN hE hT=>?_)));(try with_reducible refine evCnd fun X Y hX hY=>?_);(conv=>whnf))
     repeat' (first|exact trivial|((first|((first|refine hT _ _ ?_|refine hE _ _ _ ?_|refine hN _ _ ?_);clear hN hE hT)|((first|refine hX ?_|refine hY ?_);clear hX hY)|refine kL ?_|(refine ⟨fun hb=>?_,fun hb=>?_⟩<;>(try simp only [nrm] at hb)<;>(try (first|(exfalso;omega)|contradiction|exact kB hb)))|refine kE g1 [(0,0)] rfl ?_ (hrd:=⟨rfl,trivial⟩)|refine kF g1 [(0,0)] rfl ?_ (hrd:=⟨rfl,trivial⟩)|refine kE g2 [(0,0)] rfl ?_ (hrd:=⟨rfl,trivial⟩)|refine kF g2 [(0,0)] rfl ?_ (hrd:=⟨rfl,trivial⟩)|refine kE g3 [(0,0)] rfl ?_ (hrd:=⟨rfl,trivial⟩)|refine kF g3 [(0,0)] rfl ?_ (hrd:=⟨rfl,trivial⟩)|refine kA hfd ?_|refine kD hfd ?_|refine kW cfg_ok ?_|refine kC ?_|refine bdA ?_|refine bd2 ?_|refine bdR ?_|refine bdL ?_)<;>((repeat (first|(with_reducible refine evCut fun N hN hE hT=>?_)|(with_reducible refine evBlk fun N hN hE hT=>?_)));(try with_reducible refine evCnd fun X Y hX hY=>?_);(conv=>whnf)))|(refine And.intro ?_ ?_;rotate_left;(conv=>whnf);rotate_right))
     all_goals trace_state
   | true =>
     rw [if_neg (show ¬ true = false by simp)]
     have hwr:=hfo.1 rfl
     have hwl : was.cells.length = 64:=by have:=right_len hwr;omega
     have hwf:=fitC_right hwr
     have go:=sown_ev was hwf
     change Ev1 _ _ _ _ (.agg [i64 was.x,i64 was.y,.own .u8 390001 0 was.cells.length none,.own .heap 390003 0 was.heaps.length none,.own .box 390005 0 was.boxes.length none]) _ at go
     rw [hwl] at go
     dsimp only
     by_cases c1 : fm = 1
     · rw [if_pos c1]
       subst c1
       have g4:=snum_ev b ⟨mp,mb⟩ 16 h8 hl e3 (by decide)
       have e4 : (numI b 16 ⟨mp,mb⟩).2.pos ≤ b.length:=numI_pos h8 e3
       have e5:=numI_le (b:=b) (most:=16) (s:=⟨mp,mb⟩)
       change Ev1 _ _ _ [(0,.box [.vec .u8 b,i64 mp,bol mb])] _ _ at g4
       generalize numI b 16 ⟨mp,mb⟩ = C at *
       obtain ⟨n,np,nb⟩:=C
       dsimp only at *
       generalize hR : cellsR b n.toNat was.cells ⟨np,nb⟩ = R at *
       obtain ⟨rl,rp,rb⟩:=R
       dsimp only
       refine Ev1.of_fin cfg_ok Tryz.func102 rfl (nt:=67) rfl rfl rfl ?_
       ((repeat (first|(with_reducible refine evCut fun N hN hE hT=>?_)|(with_reducible refine evBlk fun N hN hE hT=>?_)));(try with_reducible refine evCnd fun X Y hX hY=>?_);(conv=>whnf))
       repeat' (first|exact trivial|((first|((first|refine hT _ _ ?_|refine hE _ _ _ ?_|refine hN _ _ ?_);clear hN hE hT)|((first|refine hX ?_|refine hY ?_);clear hX hY)|refine kL ?_|(refine ⟨fun hb=>?_,fun hb=>?_⟩<;>(try simp only [nrm] at hb)<;>(try (first|(exfalso;omega)|contradiction|exact kB hb)))|refine kE g1 [(0,0)] rfl ?_ (hrd:=⟨rfl,trivial⟩)|refine kF g1 [(0,0)] rfl ?_ (hrd:=⟨rfl,trivial⟩)|refine kE g2 [(0,0)] rfl ?_ (hrd:=⟨rfl,trivial⟩)|refine kF g2 [(0,0)] rfl ?_ (hrd:=⟨rfl,trivial⟩)|refine kE g3 [(0,0)] rfl ?_ (hrd:=⟨rfl,trivial⟩)|refine kF g3 [(0,0)] rfl ?_ (hrd:=⟨rfl,trivial⟩)|refine kE go [(390001,350001),(390003,350003),(390005,350005)] rfl ?_|refine kF go [(390001,350001),(390003,350003),(390005,350005)] rfl ?_|refine kE g4 [(0,0)] rfl ?_ (hrd:=⟨rfl,trivial⟩)|refine kF g4 [(0,0)] rfl ?_ (hrd:=⟨rfl,trivial⟩)|refine kA hfd ?_|refine kD hfd ?_|refine kW cfg_ok ?_|refine kC ?_|refine bdA ?_|refine bd2 ?_|refine bdR ?_|refine bdL ?_)<;>((repeat (first|(with_reducible refine evCut fun N hN hE hT=>?_)|(with_reducible refine evBlk fun N hN hE hT=>?_)));(try with_reducible refine evCnd fun X Y hX hY=>?_);(conv=>whnf)))|(refine And.intro ?_ ?_;rotate_left;(conv=>whnf);rotate_right))
       clear g1 g2 g3 g4 go hfd hfo
       refine Runs.loopS cfg_ok (σ:=List (El .u8) × Nat × Nat × Bool) [0,4,10,11] (fun (l,r,t,u)=>[.ptr 0 0,.ptr 200008 0,.ptr 200020 0,i64 r]) (fun (l,r,t,u)=>[(0,.box [.vec .u8 b,i64 t,bol u]),(200008,.box (chunkC emptyK)),(200020,.box [i64 was.x,i64 was.y,.own .u8 350001 0 64 none,.vec .heap was.heaps,.vec .box was.boxes]),(350001,.row .u8 l)])
         (fun (l,r,t,u)=>(l.length = 64 ∧ r ≤ 16) ∧ t ≤ b.length ∧ cellsR b r l ⟨t,u⟩ = (rl,⟨rp,rb⟩)) (fun (l,r,t,u)=>r) (was.cells,n.toNat,np,nb) ⟨⟨hwl,by show n.toNat ≤ 16;omega⟩,e4,hR⟩ ?_ ?_
       · conv=>whnf
         repeat' (first|exact trivial|((first|((first|refine hT _ _ ?_|refine hE _ _ _ ?_|refine hN _ _ ?_);clear hN hE hT)|((first|refine hX ?_|refine hY ?_);clear hX hY)|refine kL ?_|(refine ⟨fun hb=>?_,fun hb=>?_⟩<;>(try simp only [nrm] at hb)<;>(try (first|(exfalso;omega)|contradiction|exact kB hb)))|refine kW cfg_ok ?_|refine kC ?_|refine bdA ?_|refine bd2 ?_|refine bdR ?_|refine bdL ?_)<;>((repeat (first|(with_reducible refine evCut fun N hN hE hT=>?_)|(with_reducible refine evBlk fun N hN hE hT=>?_)));(try with_reducible refine evCnd fun X Y hX hY=>?_);(conv=>whnf)))|(refine And.intro ?_ ?_;rotate_left;(conv=>whnf);rotate_right))
         all_goals first|rfl|exact List.take_length|exact congrArg (Value.int _) (by omega)|exact List.take_of_length_le (by omega)|trace_state
       · rintro ⟨l,r,t,u⟩ ⟨⟨m1,m0⟩,m2,m3⟩
         try dsimp only at m0 m1 m2 m3
         by_cases hlive : 0 < r ∧ u = false
         · obtain ⟨hr0,rfl⟩:=hlive
           obtain ⟨r,rfl⟩ : ∃ r' : Nat,r = r' + 1:=⟨r - 1,by omega⟩
           rw [cells_next rfl] at m3
           have q1:=snum_ev b ⟨t,false⟩ 63 h8 hl m2 (by decide)
           have q2 : (numI b 63 ⟨t,false⟩).2.pos ≤ b.length:=numI_pos h8 m2
           have q3:=snum_ev b (numI b 63 ⟨t,false⟩).2 255 h8 hl q2 (by decide)
           have q4 : (numI b 255 (numI b 63 ⟨t,false⟩).2).2.pos ≤ b.length:=numI_pos h8 q2
           obtain ⟨q5,q6⟩:=numI_le (b:=b) (most:=63) (s:=⟨t,false⟩)
           obtain ⟨q7,q8⟩:=numI_le (b:=b) (most:=255) (s:=(numI b 63 ⟨t,false⟩).2)
           generalize numI b 63 ⟨t,false⟩ = I at *
           obtain ⟨i,ip,ib⟩:=I
           dsimp only at *
           generalize numI b 255 ⟨ip,ib⟩ = V at *
           obtain ⟨z,zp,zb⟩:=V
           dsimp only at *
           change Ev1 _ _ _ [(0,.box [.vec .u8 b,i64 t,bol false])] _ [(0,.box [.vec .u8 b,i64 ip,bol ib])] at q1
           change Ev1 _ _ _ [(0,.box [.vec .u8 b,i64 ip,bol ib])] _ [(0,.box [.vec .u8 b,i64 zp,bol zb])] at q3
           conv=>whnf
           repeat' (first|exact trivial|((first|((first|refine hT _ _ ?_|refine hE _ _ _ ?_|refine hN _ _ ?_);clear hN hE hT)|((first|refine hX ?_|refine hY ?_);clear hX hY)|refine kL ?_|(refine ⟨fun hb=>?_,fun hb=>?_⟩<;>(try simp only [nrm] at hb)<;>(try (first|(exfalso;omega)|contradiction|exact kB hb)))|refine kE q1 [(0,0)] rfl ?_ (hrd:=⟨rfl,trivial⟩)|refine kF q1 [(0,0)] rfl ?_ (hrd:=⟨rfl,trivial⟩)|refine kE q3 [(0,0)] rfl ?_ (hrd:=⟨rfl,trivial⟩)|refine kF q3 [(0,0)] rfl ?_ (hrd:=⟨rfl,trivial⟩)|refine kW cfg_ok ?_|refine kC ?_|refine bdA ?_|refine bd2 ?_|refine bdR ?_|refine bdL ?_)<;>((repeat (first|(with_reducible refine evCut fun N hN hE hT=>?_)|(with_reducible refine evBlk fun N hN hE hT=>?_)));(try with_reducible refine evCnd fun X Y hX hY=>?_);(conv=>whnf)))|(refine And.intro ?_ ?_;rotate_left;(conv=>whnf);rotate_right))
           refine .to (l.set i.toNat z,r,zp,zb) ⟨⟨by rw [List.length_set];exact m1,by show r ≤ 16;omega⟩,q4,m3⟩ (by first|omega|(dsimp only;omega)) ?_
           conv=>whnf
           repeat' (first|exact trivial|((first|((first|refine hT _ _ ?_|refine hE _ _ _ ?_|refine hN _ _ ?_);clear hN hE hT)|((first|refine hX ?_|refine hY ?_);clear hX hY)|refine kL ?_|(refine ⟨fun hb=>?_,fun hb=>?_⟩<;>(try simp only [nrm] at hb)<;>(try (first|(exfalso;omega)|contradiction|exact kB hb)))|refine kW cfg_ok ?_|refine kC ?_|refine bdA ?_|refine bd2 ?_|refine bdR ?_|refine bdL ?_)<;>((repeat (first|(with_reducible refine evCut fun N hN hE hT=>?_)|(with_reducible refine evBlk fun N hN hE hT=>?_)));(try with_reducible refine evCnd fun X Y hX hY=>?_);(conv=>whnf)))|(refine And.intro ?_ ?_;rotate_left;(conv=>whnf);rotate_right))
           · show Value.int _ (((r + 1 : Nat) : Int) - 1) = Value.int _ (r : Int)
             exact congrArg (Value.int _) (by omega)
           · exact List.take_of_length_le (by rw [List.length_set];omega)
         · have hdead : l = rl ∧ (⟨t,u⟩ : Rd) = ⟨rp,rb⟩:=by
             rw [cells_dead hlive] at m3
             exact ⟨congrArg Prod.fst m3,congrArg Prod.snd m3⟩
           obtain ⟨d1,h2⟩:=hdead
           obtain ⟨d2,d3⟩:=Rd.mk.inj h2
           clear h2 m3 hR
           conv=>whnf
           repeat' (first|exact trivial|((first|((first|refine hT _ _ ?_|refine hE _ _ _ ?_|refine hN _ _ ?_);clear hN hE hT)|((first|refine hX ?_|refine hY ?_);clear hX hY)|refine kL ?_|(refine ⟨fun hb=>?_,fun hb=>?_⟩<;>(try simp only [nrm] at hb)<;>(try (first|(exfalso;omega)|contradiction|exact kB hb)))|refine kW cfg_ok ?_|refine kC ?_|refine bdA ?_|refine bd2 ?_|refine bdR ?_|refine bdL ?_)<;>((repeat (first|(with_reducible refine evCut fun N hN hE hT=>?_)|(with_reducible refine evBlk fun N hN hE hT=>?_)));(try with_reducible refine evCnd fun X Y hX hY=>?_);(conv=>whnf)))|(refine And.intro ?_ ?_;rotate_left;(conv=>whnf);rotate_right))
           all_goals (try (exact absurd ⟨by omega,by simpa using hb⟩ hlive))
           all_goals first|rfl|exact congrArg Value.bool d3|(rw [← d1];exact List.take_of_length_le (by rw [List.drop_zero];omega))|(show Value.int _ (t : Int) = Value.int _ (rp : Int);rw [d2])|exact List.take_of_length_le (by rw [List.drop_zero];omega)|trace_state
     · rw [if_neg c1]
       refine Ev1.of_fin cfg_ok Tryz.func102 rfl (nt:=67) rfl rfl rfl ?_
       ((repeat (first|(with_reducible refine evCut fun N hN hE hT=>?_)|(with_reducible refine evBlk fun N hN hE hT=>?_)));(try with_reducible refine evCnd fun X Y hX hY=>?_);(conv=>whnf))
       repeat' (first|exact trivial|((first|((first|refine hT _ _ ?_|refine hE _ _ _ ?_|refine hN _ _ ?_);clear hN hE hT)|((first|refine hX ?_|refine hY ?_);clear hX hY)|refine kL ?_|(refine ⟨fun hb=>?_,fun hb=>?_⟩<;>(try simp only [nrm] at hb)<;>(try (first|(exfalso;omega)|contradiction|exact kB hb)))|refine kE g1 [(0,0)] rfl ?_ (hrd:=⟨rfl,trivial⟩)|refine kF g1 [(0,0)] rfl ?_ (hrd:=⟨rfl,trivial⟩)|refine kE g2 [(0,0)] rfl ?_ (hrd:=⟨rfl,trivial⟩)|refine kF g2 [(0,0)] rfl ?_ (hrd:=⟨rfl,trivial⟩)|refine kE g3 [(0,0)] rfl ?_ (hrd:=⟨rfl,trivial⟩)|refine kF g3 [(0,0)] rfl ?_ (hrd:=⟨rfl,trivial⟩)|refine kE go [(390001,350001),(390003,350003),(390005,350005)] rfl ?_|refine kF go [(390001,350001),(390003,350003),(390005,350005)] rfl ?_|refine kA hfd ?_|refine kD hfd ?_|refine kW cfg_ok ?_|refine kC ?_|refine bdA ?_|refine bd2 ?_|refine bdR ?_|refine bdL ?_)<;>((repeat (first|(with_reducible refine evCut fun N hN hE hT=>?_)|(with_reducible refine evBlk fun N hN hE hT=>?_)));(try with_reducible refine evCnd fun X Y hX hY=>?_);(conv=>whnf)))|(refine And.intro ?_ ?_;rotate_left;(conv=>whnf);rotate_right))
       all_goals first|rfl|exact List.take_length|exact List.take_of_length_le (by rw [List.drop_zero];omega)
open Go Go.RowKit Eng
abbrev viewQ (v : Viw) (a k : Nat) : List AV:=[i64 v.tick,i64 v.me.id,i64 v.me.x,i64 v.me.y,.vec .slot v.me.bag,i64 v.me.wth,.vec .slot v.me.offer,bol v.me.agrees,.vec .chunk v.chunks,.own .seen a 0 k none]
theorem lendVo {P : Program} {fid : FuncId} {n : Viw} {k : Nat} {v : AV} (h : Api P fid [viewV n] v) (hk : k = n.others.length) (hv : scalB v = true) : Ev1 P fid [.agg (viewQ n 1 k)] [(1,.row .seen n.others)] v [(1,.row .seen n.others)]:=by
 subst hk
 refine Api.lend h ?_ hv
 conv=>whnf
 refine ⟨by omega,?_⟩
 rw [List.drop_zero,List.take_length]
 rfl
theorem makeO_ev (v n : Viw) (k : Nat) (hk : k = n.others.length) (hv : OkV v) (hn : OkV n) : Ev1 Tryz.prog 37 [viewV v,.agg (viewQ n 1 k)] [(1,.row .seen n.others)] (.tup [.vec .u8 (makeE v n).1,i64 (makeE v n).2]) [(1,.row .seen n.others)]:=by
 subst hk
 have hr0:=vright_api n hn
 have hb1:=vbase_api v hv
 unfold makeE makeB
 cases hR : rightV n with
 | false =>
   rw [hR] at hr0
   have hr:=lendVo hr0 rfl rfl
   rw [Bool.false_and,if_neg (by simp),if_neg (by simp)]
   refine Ev1.of_fin cfg_ok Tryz.func37 rfl (nt:=108) rfl rfl rfl ?_
   conv=>whnf
   repeat' (first|exact trivial|((first|refine kL ?_|(refine ⟨fun hb=>?_,fun hb=>?_⟩<;>(try simp only [nrm] at hb)<;>(try (first|(exfalso;omega)|contradiction|exact kB hb)))|refine kE hr [(1,1)] rfl ?_ (hrd:=⟨rfl,trivial⟩)|refine kF hr [(1,1)] rfl ?_ (hrd:=⟨rfl,trivial⟩)|refine kA hb1 ?_|refine kD hb1 ?_|refine kW cfg_ok ?_|refine kC ?_|refine bdA ?_|refine bd2 ?_|refine bdR ?_|refine bdL ?_)<;>(conv=>whnf))|(refine And.intro ?_ ?_;rotate_left;(conv=>whnf);rotate_right))
 | true =>
 rw [hR] at hr0
 have hr:=lendVo hr0 rfl rfl
 cases hB : baseB v with
 | false =>
   rw [hB] at hb1
   rw [Bool.true_and,if_neg (by simp),if_neg (by simp)]
   refine Ev1.of_fin cfg_ok Tryz.func37 rfl (nt:=108) rfl rfl rfl ?_
   conv=>whnf
   repeat' (first|exact trivial|((first|refine kL ?_|(refine ⟨fun hb=>?_,fun hb=>?_⟩<;>(try simp only [nrm] at hb)<;>(try (first|(exfalso;omega)|contradiction|exact kB hb)))|refine kE hr [(1,1)] rfl ?_ (hrd:=⟨rfl,trivial⟩)|refine kF hr [(1,1)] rfl ?_ (hrd:=⟨rfl,trivial⟩)|refine kA hb1 ?_|refine kD hb1 ?_|refine kW cfg_ok ?_|refine kC ?_|refine bdA ?_|refine bd2 ?_|refine bdR ?_|refine bdL ?_)<;>(conv=>whnf))|(refine And.intro ?_ ?_;rotate_left;(conv=>whnf);rotate_right))
 | true =>
 rw [hB] at hb1
 rw [Bool.true_and,if_pos rfl,if_pos rfl]
 have hP:=rightV_P hR
 have p1:=hP.tick;have p2:=hP.id;have p3:=hP.x;have p4:=hP.y;have p5:=hP.w;have p6:=hP.nc;have p7:=hP.no;have p8:=hP.bag
 have p9 : n.me.offer.length ≤ 8:=by
   rcases hP.off with ⟨_,h,_⟩|⟨_,h⟩
   · rw [h];simp
   · omega
 have hag : 0 ≤ agI n.me.agrees ∧ agI n.me.agrees ≤ 1:=by unfold agI;split<;>omega
 have g1:=sput_nil [n.tick,n.me.id,n.me.x,n.me.y] _ rfl (okN_four (by unfold okN;omega) (by unfold okN;omega) (by unfold okN;omega) (by unfold okN;omega)) (by simp only [List.length_cons,List.length_nil];omega)
 have a1:=putY_len [n.tick,n.me.id,n.me.x,n.me.y]
 simp only [List.length_cons,List.length_nil] at a1
 have hY : makeY v n = putY [n.tick,n.me.id,n.me.x,n.me.y] ++ n.me.bag.flatMap slotL ++ putY [n.me.wth + 1,agI n.me.agrees] ++ n.me.offer.flatMap slotL ++ putY [(n.chunks.length : Int)] ++ n.chunks.flatMap (chunkY v) ++ putY [(n.others.length : Int)] ++ n.others.flatMap seenY:=rfl
 rw [hY]
 clear hY
 generalize putY [n.tick,n.me.id,n.me.x,n.me.y] = A1 at *
 have g2:=sslots_ev A1 A1.length n.me.bag rfl (fun s hs=>⟨(hP.bagS s hs).1,by have:=(hP.bagS s hs).2;unfold okN;omega⟩) (by omega)
 have b1:=flatMap_len slotL 20 n.me.bag (fun s _=>slotL_len s)
 generalize n.me.bag.flatMap slotL = B1 at *
 have g3:=sput_ev (A1 ++ B1) _ [n.me.wth + 1,agI n.me.agrees] _ rfl (by rw [List.length_append]) (okN_two (by unfold okN;omega) (by unfold okN;omega)) (by simp only [List.length_cons,List.length_nil,List.length_append];omega)
 have a2:=putY_len [n.me.wth + 1,agI n.me.agrees]
 simp only [List.length_cons,List.length_nil] at a2
 generalize putY [n.me.wth + 1,agI n.me.agrees] = A2 at *
 have g4:=sslots_ev (A1 ++ B1 ++ A2) _ n.me.offer (by rw [List.length_append,List.length_append]) (fun s hs=>⟨(hP.offS s hs).1,by have:=(hP.offS s hs).2;unfold okN;omega⟩) (by simp only [List.length_append];omega)
 have b2:=flatMap_len slotL 20 n.me.offer (fun s _=>slotL_len s)
 generalize n.me.offer.flatMap slotL = B2 at *
 have g5:=sput_ev (A1 ++ B1 ++ A2 ++ B2) _ [(n.chunks.length : Int)] _ rfl (by rw [List.length_append,List.length_append,List.length_append]) (okN_one (by unfold okN;omega)) (by simp only [List.length_cons,List.length_nil,List.length_append];omega)
 have a3:=putY_len [(n.chunks.length : Int)]
 simp only [List.length_cons,List.length_nil] at a3
 generalize putY [(n.chunks.length : Int)] = A3 at *
 have hQe : A1.length + B1.length + A2.length + B2.length + A3.length = (A1 ++ B1 ++ A2 ++ B2 ++ A3).length:=by simp only [List.length_append]
 have hQl : (A1 ++ B1 ++ A2 ++ B2 ++ A3).length ≤ 1000:=by simp only [List.length_append];omega
 rw [hQe] at g5
 generalize hQ : A1 ++ B1 ++ A2 ++ B2 ++ A3 = Q at *
 clear hQ hQe
 have hcl : (n.chunks.flatMap (chunkY v)).length ≤ n.chunks.length * 5200:=flatMap_len (chunkY v) 5200 n.chunks (fun c hc=>chunkY_le (hP.chunks c hc))
 have g6:=sput_ev (Q ++ n.chunks.flatMap (chunkY v)) _ [(n.others.length : Int)] _ rfl (by rw [List.length_append]) (okN_one (by unfold okN;omega)) (by simp only [List.length_cons,List.length_nil,List.length_append];omega)
 have a4:=putY_len [(n.others.length : Int)]
 simp only [List.length_cons,List.length_nil] at a4
 have hRl : (Q ++ n.chunks.flatMap (chunkY v) ++ putY [(n.others.length : Int)]).length ≤ 1000000:=by simp only [List.length_append];omega
 have hRe : Q.length + (n.chunks.flatMap (chunkY v)).length + (putY [(n.others.length : Int)]).length = (Q ++ n.chunks.flatMap (chunkY v) ++ putY [(n.others.length : Int)]).length:=by simp only [List.length_append]
 rw [hRe] at g6
 generalize hRR : Q ++ n.chunks.flatMap (chunkY v) ++ putY [(n.others.length : Int)] = R at *
 clear hRR hRe a4
 have hax : (n.me.agrees = true ∧ agI n.me.agrees = 1) ∨ (n.me.agrees = false ∧ agI n.me.agrees = 0):=by unfold agI;cases n.me.agrees<;>simp
 rcases hax with ⟨hx,hy⟩|⟨hx,hy⟩
 all_goals
   rw [hy] at g3
   refine Ev1.of_fin cfg_ok Tryz.func37 rfl (nt:=108) rfl rfl rfl ?_
   ((repeat (first|(with_reducible refine evCut fun N hN hE hT=>?_)|(with_reducible refine evBlk fun N hN hE hT=>?_)));(try with_reducible refine evCnd fun X Y hX hY=>?_);(conv=>whnf))
   repeat' (first|exact trivial|((first|((first|refine hT _ _ ?_|refine hE _ _ _ ?_|refine hN _ _ ?_);clear hN hE hT)|((first|refine hX ?_|refine hY ?_);clear hX hY)|refine kL ?_|(refine ⟨fun hb=>?_,fun hb=>?_⟩<;>(try simp only [nrm] at hb)<;>(try (first|(exfalso;omega)|contradiction|exact kB hb)))|refine kE hr [(1,1)] rfl ?_ (hrd:=⟨rfl,trivial⟩)|refine kF hr [(1,1)] rfl ?_ (hrd:=⟨rfl,trivial⟩)|refine kE g1 [(0,200048),(3,200073),(390001,350001)] rfl ?_ (hrd:=⟨rfl,rfl,trivial⟩)|refine kF g1 [(0,200048),(3,200073),(390001,350001)] rfl ?_ (hrd:=⟨rfl,rfl,trivial⟩)|refine kE g2 [(0,200048),(1,350001),(390001,350003)] rfl ?_ (hrd:=⟨rfl,rfl,trivial⟩)|refine kF g2 [(0,200048),(1,350001),(390001,350003)] rfl ?_ (hrd:=⟨rfl,rfl,trivial⟩)|refine kE g3 [(0,200048),(1,350003),(3,200099),(390001,350005)] rfl ?_ (hrd:=⟨rfl,rfl,rfl,trivial⟩)|refine kF g3 [(0,200048),(1,350003),(3,200099),(390001,350005)] rfl ?_ (hrd:=⟨rfl,rfl,rfl,trivial⟩)|refine kE g4 [(0,200048),(1,350005),(390001,350007)] rfl ?_ (hrd:=⟨rfl,rfl,trivial⟩)|refine kF g4 [(0,200048),(1,350005),(390001,350007)] rfl ?_ (hrd:=⟨rfl,rfl,trivial⟩)|refine kE g5 [(0,200048),(1,350007),(3,200119),(390001,350009)] rfl ?_ (hrd:=⟨rfl,rfl,rfl,trivial⟩)|refine kF g5 [(0,200048),(1,350007),(3,200119),(390001,350009)] rfl ?_ (hrd:=⟨rfl,rfl,rfl,trivial⟩)|refine kA hb1 ?_|refine kD hb1 ?_|refine kW cfg_ok ?_|refine kC ?_|refine bdA ?_|refine bd2 ?_|refine bdR ?_|refine bdL ?_)<;>((repeat (first|(with_reducible refine evCut fun N hN hE hT=>?_)|(with_reducible refine evBlk fun N hN hE hT=>?_)));(try with_reducible refine evCnd fun X Y hX hY=>?_);(conv=>whnf)))|(refine And.intro ?_ ?_;rotate_left;(conv=>whnf);rotate_right))
   clear g1 g2 g3 g4 g5 hr hr0 hb1 hx hy
   refine Runs.loopS cfg_ok (σ:=Nat) [2,3,6,62,63,64] (fun k=>[.ptr 200004 0,.ptr 200006 0,.ptr 200048 0,.vec .chunk n.chunks,i64 n.chunks.length,i64 k]) (fun k=>[(1,.row .seen n.others),(200004,.box (viewC v)),(200006,.box (viewQ n 1 n.others.length)),(200048,.box [.own .u8 350011 0 (Q.length + ((n.chunks.take k).flatMap (chunkY v)).length) none]),(350011,.row .u8 (Q ++ (n.chunks.take k).flatMap (chunkY v)))])
     (fun k=>k ≤ n.chunks.length) (fun k=>n.chunks.length - k) 0 (by omega) ?_ ?_
   · conv=>whnf
     repeat' (first|exact trivial|((first|((first|refine hT _ _ ?_|refine hE _ _ _ ?_|refine hN _ _ ?_);clear hN hE hT)|((first|refine hX ?_|refine hY ?_);clear hX hY)|refine kL ?_|(refine ⟨fun hb=>?_,fun hb=>?_⟩<;>(try simp only [nrm] at hb)<;>(try (first|(exfalso;omega)|contradiction|exact kB hb)))|refine kW cfg_ok ?_|refine kC ?_|refine bdA ?_|refine bd2 ?_|refine bdR ?_|refine bdL ?_)<;>((repeat (first|(with_reducible refine evCut fun N hN hE hT=>?_)|(with_reducible refine evBlk fun N hN hE hT=>?_)));(try with_reducible refine evCnd fun X Y hX hY=>?_);(conv=>whnf)))|(refine And.intro ?_ ?_;rotate_left;(conv=>whnf);rotate_right))
     all_goals first|rfl|exact List.take_length|(rw [List.take_length];simp;done)
   · intro k hk
     have hfl:=flatMap_len (chunkY v) 5200 (n.chunks.take k) (fun c hc=>chunkY_le (hP.chunks c (List.mem_of_mem_take hc)))
     rw [List.length_take] at hfl
     by_cases hlt : k < n.chunks.length
     · have hcr:=hP.chunks _ (elt_mem (t:=.chunk) hlt)
       obtain ⟨f1,f2⟩:=findV_ok hB (x:=(elt .chunk n.chunks k).x) (y:=(elt .chunk n.chunks k).y)
       have hfd:=vfind_api v (elt .chunk n.chunks k).x (elt .chunk n.chunks k).y (by have:=hv.nc;omega)
       have hck : chunkY v (elt .chunk n.chunks k) = putY [(elt .chunk n.chunks k).x,(elt .chunk n.chunks k).y] ++ formY (findV v (elt .chunk n.chunks k).x (elt .chunk n.chunks k).y) (elt .chunk n.chunks k):=rfl
       generalize findV v (elt .chunk n.chunks k).x (elt .chunk n.chunks k).y = F at *
       obtain ⟨was,there⟩:=F
       dsimp only at *
       have hs:=schunk_ev (Q ++ (n.chunks.take k).flatMap (chunkY v)) _ was (elt .chunk n.chunks k) there (by rw [List.length_append]) f1 f2 hcr (by simp only [List.length_append];omega)
       rw [← hck] at hs
       conv=>whnf
       repeat' (first|exact trivial|((first|((first|refine hT _ _ ?_|refine hE _ _ _ ?_|refine hN _ _ ?_);clear hN hE hT)|((first|refine hX ?_|refine hY ?_);clear hX hY)|refine kL ?_|(refine ⟨fun hb=>?_,fun hb=>?_⟩<;>(try simp only [nrm] at hb)<;>(try (first|(exfalso;omega)|contradiction|exact kB hb)))|refine kE hs [(0,200048),(1,350011),(390001,350013)] rfl ?_ (hrd:=⟨rfl,rfl,trivial⟩)|refine kF hs [(0,200048),(1,350011),(390001,350013)] rfl ?_ (hrd:=⟨rfl,rfl,trivial⟩)|refine kA hfd ?_|refine kD hfd ?_|refine kW cfg_ok ?_|refine kC ?_|refine bdA ?_|refine bd2 ?_|refine bdR ?_|refine bdL ?_)<;>((repeat (first|(with_reducible refine evCut fun N hN hE hT=>?_)|(with_reducible refine evBlk fun N hN hE hT=>?_)));(try with_reducible refine evCnd fun X Y hX hY=>?_);(conv=>whnf)))|(refine And.intro ?_ ?_;rotate_left;(conv=>whnf);rotate_right))
       refine .to (k + 1) hlt (by omega) ?_
       conv=>whnf
       repeat' (first|exact trivial|((first|((first|refine hT _ _ ?_|refine hE _ _ _ ?_|refine hN _ _ ?_);clear hN hE hT)|((first|refine hX ?_|refine hY ?_);clear hX hY)|refine kL ?_|(refine ⟨fun hb=>?_,fun hb=>?_⟩<;>(try simp only [nrm] at hb)<;>(try (first|(exfalso;omega)|contradiction|exact kB hb)))|refine kW cfg_ok ?_|refine kC ?_|refine bdA ?_|refine bd2 ?_|refine bdR ?_|refine bdL ?_)<;>((repeat (first|(with_reducible refine evCut fun N hN hE hT=>?_)|(with_reducible refine evBlk fun N hN hE hT=>?_)));(try with_reducible refine evCnd fun X Y hX hY=>?_);(conv=>whnf)))|(refine And.intro ?_ ?_;rotate_left;(conv=>whnf);rotate_right))
       all_goals first|exact List.take_length|exact grow_len (t:=.chunk) (f:=chunkY v) Q hlt rfl|exact grow_row (t:=.chunk) (f:=chunkY v) Q hlt rfl
     · obtain rfl : k = n.chunks.length:=by omega
       rw [List.take_length] at hfl ⊢
       conv=>whnf
       repeat' (first|exact trivial|((first|((first|refine hT _ _ ?_|refine hE _ _ _ ?_|refine hN _ _ ?_);clear hN hE hT)|((first|refine hX ?_|refine hY ?_);clear hX hY)|refine kL ?_|(refine ⟨fun hb=>?_,fun hb=>?_⟩<;>(try simp only [nrm] at hb)<;>(try (first|(exfalso;omega)|contradiction|exact kB hb)))|refine kE g6 [(0,200048),(1,350011),(3,200175),(390001,350015)] rfl ?_ (hrd:=⟨rfl,rfl,rfl,trivial⟩)|refine kF g6 [(0,200048),(1,350011),(3,200175),(390001,350015)] rfl ?_ (hrd:=⟨rfl,rfl,rfl,trivial⟩)|refine kW cfg_ok ?_|refine kC ?_|refine bdA ?_|refine bd2 ?_|refine bdR ?_|refine bdL ?_)<;>((repeat (first|(with_reducible refine evCut fun N hN hE hT=>?_)|(with_reducible refine evBlk fun N hN hE hT=>?_)));(try with_reducible refine evCnd fun X Y hX hY=>?_);(conv=>whnf)))|(refine And.intro ?_ ?_;rotate_left;(conv=>whnf);rotate_right))
       clear g6
       refine Runs.loopS cfg_ok (σ:=Nat) [6,90,91,92] (fun k=>[.ptr 200048 0,.own .seen 1 0 n.others.length none,i64 n.others.length,i64 k]) (fun k=>[(1,.row .seen n.others),(200048,.box [.own .u8 350017 0 (R.length + ((n.others.take k).flatMap seenY).length) none]),(350017,.row .u8 (R ++ (n.others.take k).flatMap seenY))])
         (fun k=>k ≤ n.others.length) (fun k=>n.others.length - k) 0 (by omega) ?_ ?_
       · conv=>whnf
         repeat' (first|exact trivial|((first|((first|refine hT _ _ ?_|refine hE _ _ _ ?_|refine hN _ _ ?_);clear hN hE hT)|((first|refine hX ?_|refine hY ?_);clear hX hY)|refine kL ?_|(refine ⟨fun hb=>?_,fun hb=>?_⟩<;>(try simp only [nrm] at hb)<;>(try (first|(exfalso;omega)|contradiction|exact kB hb)))|refine kW cfg_ok ?_|refine kC ?_|refine bdA ?_|refine bd2 ?_|refine bdR ?_|refine bdL ?_)<;>((repeat (first|(with_reducible refine evCut fun N hN hE hT=>?_)|(with_reducible refine evBlk fun N hN hE hT=>?_)));(try with_reducible refine evCnd fun X Y hX hY=>?_);(conv=>whnf)))|(refine And.intro ?_ ?_;rotate_left;(conv=>whnf);rotate_right))
         all_goals first|rfl|exact List.take_length|(rw [List.take_length];simp;done)
       · intro j hj
         have hf2:=flatMap_len seenY 30 (n.others.take j) (fun s _=>seenY_len s)
         rw [List.length_take] at hf2
         by_cases hlj : j < n.others.length
         · have ho:=hP.others _ (elt_mem (t:=.seen) hlj)
           have hs:=sput_ev (R ++ (n.others.take j).flatMap seenY) _ [(elt .seen n.others j).id,(elt .seen n.others j).x,(elt .seen n.others j).y] _ rfl (by rw [List.length_append]) (okN_three (by unfold okN;omega) (by unfold okN;omega) (by unfold okN;omega)) (by simp only [List.length_append,List.length_cons,List.length_nil];omega)
           conv=>whnf
           repeat' (first|exact trivial|((first|((first|refine hT _ _ ?_|refine hE _ _ _ ?_|refine hN _ _ ?_);clear hN hE hT)|((first|refine hX ?_|refine hY ?_);clear hX hY)|refine kL ?_|(refine ⟨fun hb=>?_,fun hb=>?_⟩<;>(try simp only [nrm] at hb)<;>(try (first|(exfalso;omega)|contradiction|exact kB hb)))|refine kE hs [(0,200048),(1,350017),(3,200207),(390001,350019)] rfl ?_ (hrd:=⟨rfl,rfl,rfl,trivial⟩)|refine kF hs [(0,200048),(1,350017),(3,200207),(390001,350019)] rfl ?_ (hrd:=⟨rfl,rfl,rfl,trivial⟩)|refine kW cfg_ok ?_|refine kC ?_|refine bdA ?_|refine bd2 ?_|refine bdR ?_|refine bdL ?_)<;>((repeat (first|(with_reducible refine evCut fun N hN hE hT=>?_)|(with_reducible refine evBlk fun N hN hE hT=>?_)));(try with_reducible refine evCnd fun X Y hX hY=>?_);(conv=>whnf)))|(refine And.intro ?_ ?_;rotate_left;(conv=>whnf);rotate_right))
           refine .to (j + 1) hlj (by omega) ?_
           conv=>whnf
           repeat' (first|exact trivial|((first|((first|refine hT _ _ ?_|refine hE _ _ _ ?_|refine hN _ _ ?_);clear hN hE hT)|((first|refine hX ?_|refine hY ?_);clear hX hY)|refine kL ?_|(refine ⟨fun hb=>?_,fun hb=>?_⟩<;>(try simp only [nrm] at hb)<;>(try (first|(exfalso;omega)|contradiction|exact kB hb)))|refine kW cfg_ok ?_|refine kC ?_|refine bdA ?_|refine bd2 ?_|refine bdR ?_|refine bdL ?_)<;>((repeat (first|(with_reducible refine evCut fun N hN hE hT=>?_)|(with_reducible refine evBlk fun N hN hE hT=>?_)));(try with_reducible refine evCnd fun X Y hX hY=>?_);(conv=>whnf)))|(refine And.intro ?_ ?_;rotate_left;(conv=>whnf);rotate_right))
           all_goals first|exact List.take_length|exact grow_len (t:=.seen) (f:=seenY) R hlj rfl|exact grow_row (t:=.seen) (f:=seenY) R hlj rfl
         · obtain rfl : j = n.others.length:=by omega
           rw [List.take_length]
           conv=>whnf
           repeat' (first|exact trivial|((first|((first|refine hT _ _ ?_|refine hE _ _ _ ?_|refine hN _ _ ?_);clear hN hE hT)|((first|refine hX ?_|refine hY ?_);clear hX hY)|refine kL ?_|(refine ⟨fun hb=>?_,fun hb=>?_⟩<;>(try simp only [nrm] at hb)<;>(try (first|(exfalso;omega)|contradiction|exact kB hb)))|refine kW cfg_ok ?_|refine kC ?_|refine bdA ?_|refine bd2 ?_|refine bdR ?_|refine bdL ?_)<;>((repeat (first|(with_reducible refine evCut fun N hN hE hT=>?_)|(with_reducible refine evBlk fun N hN hE hT=>?_)));(try with_reducible refine evCnd fun X Y hX hY=>?_);(conv=>whnf)))|(refine And.intro ?_ ?_;rotate_left;(conv=>whnf);rotate_right))
           all_goals first|rfl|exact List.take_length|(rw [List.drop_zero];exact take_app _ _)
open Go Go.RowKit Eng
theorem eqBytes_api (a b : List (El .u8)) (ha : a.length ≤ 9000000000000000000) : Api Tryz.prog 103 [.vec .u8 a,.vec .u8 b] (bol (eqv a b)):=by
 by_cases hl : a.length = b.length
 · skip
   refine Api.of_fin cfg_ok Tryz.func103 rfl (nt:=24) rfl rfl ?_
   conv=>whnf
   repeat' (first|exact trivial|((first|refine kL ?_|(refine ⟨fun hb=>?_,fun hb=>?_⟩<;>(try simp only [nrm] at hb)<;>(try (first|(exfalso;omega)|contradiction|exact kB hb)))|refine kW cfg_ok ?_|refine kC ?_|refine bdA ?_|refine bd2 ?_|refine bdR ?_|refine bdL ?_)<;>(conv=>whnf))|(refine And.intro ?_ ?_;rotate_left;(conv=>whnf);rotate_right))
   all_goals try omega
   refine Runs.loopS cfg_ok (σ:=Nat) [0,1,12,13] (fun k=>[.vec .u8 a,.vec .u8 b,i64 a.length,i64 k]) (fun _=>[]) (fun k=>k ≤ a.length ∧ ∀ i < k,elt .u8 a i = elt .u8 b i) (fun k=>a.length - k) 0 ⟨by omega,by omega⟩ ?_ ?_
   · conv=>whnf
     repeat' (first|exact trivial|((first|refine kL ?_|(refine ⟨fun hb=>?_,fun hb=>?_⟩<;>(try simp only [nrm] at hb)<;>(try (first|(exfalso;omega)|contradiction|exact kB hb)))|refine kW cfg_ok ?_|refine kC ?_|refine bdA ?_|refine bd2 ?_|refine bdR ?_|refine bdL ?_)<;>(conv=>whnf))|(refine And.intro ?_ ?_;rotate_left;(conv=>whnf);rotate_right))
   · rintro k ⟨hk,ht⟩
     by_cases hlt : k < a.length
     · conv=>whnf
       repeat' (first|exact trivial|((first|refine kL ?_|(refine ⟨fun hb=>?_,fun hb=>?_⟩<;>(try simp only [nrm] at hb)<;>(try (first|(exfalso;omega)|contradiction|exact kB hb)))|refine kW cfg_ok ?_|refine kC ?_|refine bdA ?_|refine bd2 ?_|refine bdR ?_|refine bdL ?_)<;>(conv=>whnf))|(refine And.intro ?_ ?_;rotate_left;(conv=>whnf);rotate_right))
       · exact congrArg Value.bool (eqv_take (tt:=.u8) (k:=k) fun e=>by rw [e] at hb;simp at hb)
       · refine .to (k + 1) ⟨by omega,fun i hi=>?_⟩ (by omega) ?_
         · by_cases hik : i = k
           · subst hik;exact hb
           · exact ht i (by omega)
         conv=>whnf
         repeat' (first|exact trivial|((first|refine kL ?_|(refine ⟨fun hb=>?_,fun hb=>?_⟩<;>(try simp only [nrm] at hb)<;>(try (first|(exfalso;omega)|contradiction|exact kB hb)))|refine kW cfg_ok ?_|refine kC ?_|refine bdA ?_|refine bd2 ?_|refine bdR ?_|refine bdL ?_)<;>(conv=>whnf))|(refine And.intro ?_ ?_;rotate_left;(conv=>whnf);rotate_right))
     · obtain rfl : k = a.length:=by omega
       conv=>whnf
       repeat' (first|exact trivial|((first|refine kL ?_|(refine ⟨fun hb=>?_,fun hb=>?_⟩<;>(try simp only [nrm] at hb)<;>(try (first|(exfalso;omega)|contradiction|exact kB hb)))|refine kW cfg_ok ?_|refine kC ?_|refine bdA ?_|refine bd2 ?_|refine bdR ?_|refine bdL ?_)<;>(conv=>whnf))|(refine And.intro ?_ ?_;rotate_left;(conv=>whnf);rotate_right))
       exact congrArg Value.bool (eqv_all (tt:=.u8) hl ht)
 · skip
   refine Api.of_fin cfg_ok Tryz.func103 rfl (nt:=24) rfl rfl ?_
   conv=>whnf
   repeat' (first|exact trivial|((first|refine kL ?_|(refine ⟨fun hb=>?_,fun hb=>?_⟩<;>(try simp only [nrm] at hb)<;>(try (first|(exfalso;omega)|contradiction|exact kB hb)))|refine kW cfg_ok ?_|refine kC ?_|refine bdA ?_|refine bd2 ?_|refine bdR ?_|refine bdL ?_)<;>(conv=>whnf))|(refine And.intro ?_ ?_;rotate_left;(conv=>whnf);rotate_right))
   all_goals first|omega|exact congrArg Value.bool (eqv_len hl)
theorem okC_readC {b : List Int} (h8 : okU8 b) : OkC (readC b).1:=by
 unfold readC
 split
 · exact okC_emptyK
 · split
   · exact okC_emptyK
   · exact okC_K h8
theorem blobS_okC {b : List Int} {x y : Int} {s : Rd} (h8 : okU8 b) (hp : s.pos ≤ b.length) : OkC (blobS b x y s).1:=by
 cases hs : s.bad with
 | true =>
   have e : blobS b x y s = (emptyK,s):=if_pos hs
   rw [e];exact okC_emptyK
 | false =>
   rw [blobS_eq hs h8 hp]
   exact okC_readC (gbN_ok h8 hp).1
theorem cellsR_ok {b : List Int} : ∀ (n : Nat) (l : List Int) (s : Rd),(∀ i ∈ l,0 ≤ i ∧ i ≤ 255) → (cellsR b n l s).1.length = l.length ∧ ∀ i ∈ (cellsR b n l s).1,0 ≤ i ∧ i ≤ 255
 | 0,_,_,h=>⟨rfl,h⟩
 | n + 1,l,s,h=>by
   unfold cellsR
   split
   · exact ⟨rfl,h⟩
   · obtain ⟨h1,h2⟩:=cellsR_ok n (l.set (numI b 63 s).1.toNat (numI b 255 (numI b 63 s).2).1) (numI b 255 (numI b 63 s).2).2 (fun i hi=>by
       rcases List.mem_or_eq_of_mem_set hi with hi|rfl
       · exact h i hi
       · exact numI_le)
     exact ⟨by rw [h1,List.length_set],h2⟩
theorem restR_okC {b : List Int} (h8 : okU8 b) {was : Chunk × Bool} (hw : OkC was.1) {x y fm : Int} {s : Rd} (hp : s.pos ≤ b.length) : OkC (restR b was x y fm s).1:=by
 unfold restR
 split
 · exact blobS_okC h8 hp
 · split
   · exact okC_emptyK
   · split
     · obtain ⟨h1,h2⟩:=cellsR_ok (b:=b) (numI b 16 s).1.toNat was.1.cells (numI b 16 s).2 hw.cells
       exact ⟨h2,hw.heaps,hw.boxes,by show (cellsR b _ was.1.cells _).1.length ≤ big;rw [h1];exact hw.nc,hw.nh,hw.nb⟩
     · exact hw
theorem many_inv {α : Type} {b : List Int} {f : Rd → α × Rd} {p : α → Prop} (h : ∀ s,s.pos ≤ b.length → p (f s).1 ∧ (f s).2.pos ≤ b.length) : ∀ (n : Nat) (s : Rd),s.pos ≤ b.length → (manyR f n s).1.length ≤ n ∧ (∀ x ∈ (manyR f n s).1,p x) ∧ (manyR f n s).2.pos ≤ b.length
 | 0,_,hp=>⟨Nat.le_refl _,fun x hx=>(by cases hx),hp⟩
 | n + 1,s,hp=>by
   unfold manyR
   split
   · exact ⟨Nat.zero_le _,fun x hx=>(by cases hx),hp⟩
   · obtain ⟨h1,h2,h3⟩:=many_inv h n (f s).2 (h s hp).2
     refine ⟨by simp only [List.length_cons];omega,fun x hx=>?_,h3⟩
     rcases List.mem_cons.1 hx with rfl|hx
     · exact (h s hp).1
     · exact h2 x hx
theorem seenR_pos {b : List Int} (h8 : okU8 b) {s : Rd} (hp : s.pos ≤ b.length) : (seenR b s).2.pos ≤ b.length:=numI_pos h8 (numI_pos h8 (numI_pos h8 hp))
structure TkOk (v : Viw) (b : List Int) : Prop where
 p1 : (tkK v b).t.2.pos ≤ b.length
 p2 : (tkK v b).id.2.pos ≤ b.length
 p3 : (tkK v b).x.2.pos ≤ b.length
 p4 : (tkK v b).y.2.pos ≤ b.length
 p5 : (tkK v b).bag.2.pos ≤ b.length
 p6 : (tkK v b).w.2.pos ≤ b.length
 p7 : (tkK v b).ag.2.pos ≤ b.length
 p8 : (tkK v b).off.2.pos ≤ b.length
 p9 : (tkK v b).nc.2.pos ≤ b.length
 p10 : (tkK v b).cs.2.pos ≤ b.length
 p11 : (tkK v b).no.2.pos ≤ b.length
 w : 0 ≤ (tkK v b).w.1 ∧ (tkK v b).w.1 ≤ 1099511627776
 nc : 0 ≤ (tkK v b).nc.1 ∧ (tkK v b).nc.1 ≤ 49
 no : 0 ≤ (tkK v b).no.1 ∧ (tkK v b).no.1 ≤ 32
 ok : OkV (takeN v b)
theorem tkOk {v : Viw} {b : List Int} (h8 : okU8 b) (hB : baseB v = true) : TkOk v b:=by
 have p1 : (tkK v b).t.2.pos ≤ b.length:=numI_pos h8 (Nat.zero_le _)
 have p2 : (tkK v b).id.2.pos ≤ b.length:=numI_pos h8 p1
 have p3 : (tkK v b).x.2.pos ≤ b.length:=numI_pos h8 p2
 have p4 : (tkK v b).y.2.pos ≤ b.length:=numI_pos h8 p3
 have p5 : (tkK v b).bag.2.pos ≤ b.length:=all_pos (fun s hs=>slotM_pos h8 hs) 8 _ p4
 have p6 : (tkK v b).w.2.pos ≤ b.length:=numI_pos h8 p5
 have p7 : (tkK v b).ag.2.pos ≤ b.length:=numI_pos h8 p6
 have eo : (tkK v b).off = if 0 ≤ (tkK v b).w.1 - 1 then allR (slotM b B40) 8 (tkK v b).ag.2 else ([],(tkK v b).ag.2):=rfl
 have p8 : (tkK v b).off.2.pos ≤ b.length:=by
   rw [eo]
   split
   · exact all_pos (fun s hs=>slotM_pos h8 hs) 8 _ p7
   · exact p7
 have ho : (tkK v b).off.1.length ≤ 8 ∧ ∀ s ∈ (tkK v b).off.1,okSlot s:=by
   rw [eo]
   split
   · obtain ⟨a1,a2⟩:=all_mem (f:=slotM b B40) (p:=okSlot) (fun s=>slotM_bd.1) 8 (tkK v b).ag.2
     exact ⟨by rw [a1];exact Nat.le_refl _,a2⟩
   · exact ⟨Nat.zero_le _,fun s hs=>(by cases hs)⟩
 have hb:=all_mem (f:=slotM b B40) (p:=okSlot) (fun s=>slotM_bd.1) 8 (tkK v b).y.2
 have p9 : (tkK v b).nc.2.pos ≤ b.length:=numI_pos h8 p8
 have nc : 0 ≤ (tkK v b).nc.1 ∧ (tkK v b).nc.1 ≤ (49 : Nat):=numI_le
 have no : 0 ≤ (tkK v b).no.1 ∧ (tkK v b).no.1 ≤ (32 : Nat):=numI_le
 have hcs:=many_inv (f:=chunkRS b v) (p:=OkC) (fun s hs=>⟨restR_okC h8 (findV_ok hB).2 (numI_pos h8 (numI_pos h8 (numI_pos h8 hs))),chunkRS_pos h8 hs⟩) (tkK v b).nc.1.toNat (tkK v b).nc.2 p9
 have p10 : (tkK v b).cs.2.pos ≤ b.length:=hcs.2.2
 have p11 : (tkK v b).no.2.pos ≤ b.length:=numI_pos h8 p10
 have hos:=many_inv (f:=seenR b) (p:=fun _=>True) (fun s hs=>⟨trivial,seenR_pos h8 hs⟩) (tkK v b).no.1.toNat (tkK v b).no.2 p11
 refine ⟨p1,p2,p3,p4,p5,p6,p7,p8,p9,p10,p11,numI_le,nc,no,⟨⟨hb.2,ho.2,?_,?_⟩,hcs.2.1,?_,?_⟩⟩
 · show (allR (slotM b B40) 8 (tkK v b).y.2).1.length * 16 ≤ _
   rw [hb.1];omega
 · show (tkK v b).off.1.length * 16 ≤ _
   omega
 · show (manyR (chunkRS b v) (tkK v b).nc.1.toNat (tkK v b).nc.2).1.length * 88 ≤ _
   omega
 · show (manyR (seenR b) (tkK v b).no.1.toNat (tkK v b).no.2).1.length * 24 ≤ _
   omega
theorem many_dead {α : Type} {f : Rd → α × Rd} {n t : Nat} {u : Bool} (h : ¬ (0 < n ∧ u = false)) : manyR f n ⟨t,u⟩ = ([],⟨t,u⟩):=by
 cases n with
 | zero=>rfl
 | succ n =>
   have hu : u = true:=by
     cases u with
     | true=>rfl
     | false=>exact absurd ⟨Nat.succ_pos n,rfl⟩ h
   exact if_pos hu
theorem makeY_le {v n : Viw} (h : rightV n = true) : (makeY v n).length ≤ 300000:=by
 have hP:=rightV_P h
 have p6:=hP.nc;have p7:=hP.no;have p8:=hP.bag
 have p9 : n.me.offer.length ≤ 8:=by
   rcases hP.off with ⟨_,h,_⟩|⟨_,h⟩
   · rw [h];simp
   · omega
 have a1:=putY_len [n.tick,n.me.id,n.me.x,n.me.y]
 have a2:=putY_len [n.me.wth + 1,agI n.me.agrees]
 have a3:=putY_len [(n.chunks.length : Int)]
 have a4:=putY_len [(n.others.length : Int)]
 have b1:=flatMap_len slotL 20 n.me.bag (fun s _=>slotL_len s)
 have b2:=flatMap_len slotL 20 n.me.offer (fun s _=>slotL_len s)
 have b3:=flatMap_len (chunkY v) 5200 n.chunks (fun c hc=>chunkY_le (hP.chunks c hc))
 have b4:=flatMap_len seenY 30 n.others (fun s _=>seenY_len s)
 simp only [List.length_cons,List.length_nil] at a1 a2 a3 a4
 unfold makeY
 simp only [List.length_append]
 omega
theorem take_ways {v : Viw} {b : List Int} (hB : baseB v = true) :
   ((tkK v b).os.2.bad = true ∨ ¬ (tkK v b).os.2.pos = b.length → takeY v b = (emptyV,120)) ∧
   (makeB v (takeN v b) = false → takeY v b = (emptyV,120)) ∧
   (¬ makeY v (takeN v b) = b → takeY v b = (emptyV,120)) ∧
   ((tkK v b).os.2.bad = false → (tkK v b).os.2.pos = b.length → makeB v (takeN v b) = true → makeY v (takeN v b) = b → takeY v b = (takeN v b,0)):=by
 have e : takeY v b = if (tkK v b).os.2.bad = true ∨ ¬ (tkK v b).os.2.pos = b.length then (emptyV,120) else if makeB v (takeN v b) = true ∧ makeY v (takeN v b) = b then (takeN v b,0) else (emptyV,120):=by
   unfold takeY
   rw [if_neg (by rw [hB];simp)]
 rw [e]
 refine ⟨fun h=>if_pos h,fun h=>?_,fun h=>?_,fun h1 h2 h3 h4=>?_⟩
 · split
   · rfl
   · rw [if_neg];rw [h];simp
 · split
   · rfl
   · rw [if_neg fun k=>h k.2]
 · rw [if_neg,if_pos ⟨h3,h4⟩]
   rw [h1,h2];simp
open Go Go.RowKit Eng
theorem takeNo_api (v : Viw) (b : List (El .u8)) (hv : OkV v) (hB : baseB v = false) : Api Tryz.prog 38 [viewV v,.vec .u8 b] (.tup [viewV emptyV,i64 113]):=by
 have hb1:=vbase_api v hv
 rw [hB] at hb1
 refine Api.of_fin cfg_ok Tryz.func38 rfl (nt:=137) rfl rfl ?_
 conv=>whnf
 repeat' (first|exact trivial|((first|refine kL ?_|(refine ⟨fun hb=>?_,fun hb=>?_⟩<;>(try simp only [nrm] at hb)<;>(try (first|(exfalso;omega)|contradiction|exact kB hb)))|refine kA hb1 ?_|refine kD hb1 ?_|refine kW cfg_ok ?_|refine kC ?_|refine bdA ?_|refine bd2 ?_|refine bdR ?_|refine bdL ?_)<;>(conv=>whnf))|(refine And.intro ?_ ?_;rotate_left;(conv=>whnf);rotate_right))
theorem takeIn_api (v : Viw) (b : List (El .u8)) (hv : OkV v) (h8 : okU8 b) (hl : b.length ≤ 1000000000000) (hB : baseB v = true) (R : Viw × Int) (hR : takeY v b = R) : Api Tryz.prog 38 [viewV v,.vec .u8 b] (.tup [viewV R.1,i64 R.2]):=by
 have hb1:=vbase_api v hv
 rw [hB] at hb1
 obtain ⟨w1,w2,w3,w4⟩:=take_ways (b:=b) hB
 rw [hR] at w1 w2 w3 w4
 clear hR
 have hk:=tkOk h8 hB
 have k1:=hk.p1;have k2:=hk.p2;have k3:=hk.p3;have k4:=hk.p4;have k5:=hk.p5;have k6:=hk.p6;have k7:=hk.p7;have k8:=hk.p8;have k9:=hk.p9;have k10:=hk.p10;have k11:=hk.p11
 have kw:=hk.w;have knc:=hk.nc;have kno:=hk.no
 have hN:=hk.ok
 clear hk
 have hmk:=makeO_ev v (takeN v b) (takeN v b).others.length rfl hv hN
 have heq:=eqBytes_api (makeE v (takeN v b)).1 b
 have hEl : (makeE v (takeN v b)).1 = (if makeB v (takeN v b) then makeY v (takeN v b) else []):=rfl
 have hEe : (makeE v (takeN v b)).2 = (if makeB v (takeN v b) then 0 else 113):=rfl
 have hTN : takeN v b = ⟨(tkK v b).t.1,⟨(tkK v b).id.1,(tkK v b).x.1,(tkK v b).y.1,(tkK v b).bag.1,(tkK v b).w.1 - 1,(tkK v b).off.1,decide ((tkK v b).ag.1 = 1)⟩,(tkK v b).cs.1,(tkK v b).os.1⟩:=rfl
 have g1 : Ev1 Tryz.prog 100 _ [(0,.box (rdC b ⟨0,false⟩))] (i64 (tkK v b).t.1) [(0,.box (rdC b (tkK v b).t.2))]:=snum_ev b ⟨0,false⟩ B40 h8 hl (Nat.zero_le _) (by decide)
 have g2 : Ev1 Tryz.prog 100 _ [(0,.box (rdC b (tkK v b).t.2))] (i64 (tkK v b).id.1) [(0,.box (rdC b (tkK v b).id.2))]:=snum_ev b (tkK v b).t.2 B40 h8 hl k1 (by decide)
 have g3 : Ev1 Tryz.prog 100 _ [(0,.box (rdC b (tkK v b).id.2))] (i64 (tkK v b).x.1) [(0,.box (rdC b (tkK v b).x.2))]:=snum_ev b (tkK v b).id.2 B40 h8 hl k2 (by decide)
 have g4 : Ev1 Tryz.prog 100 _ [(0,.box (rdC b (tkK v b).x.2))] (i64 (tkK v b).y.1) [(0,.box (rdC b (tkK v b).y.2))]:=snum_ev b (tkK v b).x.2 B40 h8 hl k3 (by decide)
 have g5 : Ev1 Tryz.prog 101 _ [(0,.box (rdC b (tkK v b).y.2))] (.vec .slot (tkK v b).bag.1) [(0,.box (rdC b (tkK v b).bag.2))]:=rslots_ev b (tkK v b).y.2 h8 hl k4
 have g6 : Ev1 Tryz.prog 100 _ [(0,.box (rdC b (tkK v b).bag.2))] (i64 (tkK v b).w.1) [(0,.box (rdC b (tkK v b).w.2))]:=snum_ev b (tkK v b).bag.2 B40 h8 hl k5 (by decide)
 have g7 : Ev1 Tryz.prog 100 _ [(0,.box (rdC b (tkK v b).w.2))] (i64 (tkK v b).ag.1) [(0,.box (rdC b (tkK v b).ag.2))]:=snum_ev b (tkK v b).w.2 1 h8 hl k6 (by decide)
 have eo : (tkK v b).off = if 0 ≤ (tkK v b).w.1 - 1 then allR (slotM b B40) 8 (tkK v b).ag.2 else ([],(tkK v b).ag.2):=rfl
 have g8:=rslots_ev b (tkK v b).ag.2 h8 hl k7
 have g9 : Ev1 Tryz.prog 100 _ [(0,.box (rdC b (tkK v b).off.2))] (i64 (tkK v b).nc.1) [(0,.box (rdC b (tkK v b).nc.2))]:=snum_ev b (tkK v b).off.2 49 h8 hl k8 (by decide)
 have g10 : Ev1 Tryz.prog 100 _ [(0,.box (rdC b (tkK v b).cs.2))] (i64 (tkK v b).no.1) [(0,.box (rdC b (tkK v b).no.2))]:=snum_ev b (tkK v b).cs.2 32 h8 hl k10 (by decide)
 have ec : (tkK v b).cs = manyR (chunkRS b v) (tkK v b).nc.1.toNat (tkK v b).nc.2:=rfl
 have es : (tkK v b).os = manyR (seenR b) (tkK v b).no.1.toNat (tkK v b).no.2:=rfl
 rw [hTN] at hmk hN w2 w3 w4 heq hEl hEe
 clear hTN
 generalize tkK v b = K at *
 obtain ⟨⟨t,tp,tb⟩,⟨id,ip,ib⟩,⟨x,xp,xb⟩,⟨y,yp,yb⟩,⟨bag,bp,bb⟩,⟨w,wp,wb⟩,⟨ag,ap,ab⟩,⟨off,op,ob⟩,⟨nc,np,nb⟩,⟨cs,cp,cb⟩,⟨no,mp,mb⟩,⟨os,sp,sb⟩⟩:=K
 dsimp only at *
 generalize hNw : (⟨t,⟨id,x,y,bag,w - 1,off,decide (ag = 1)⟩,cs,os⟩ : Viw) = NV at *
 have hNo : os.length = NV.others.length:=by rw [← hNw]
 have hmk2 : Ev1 Tryz.prog 37 [viewV v,.agg [i64 t,i64 id,i64 x,i64 y,.vec .slot bag,i64 (w - 1),.vec .slot off,bol (decide (ag = 1)),.vec .chunk cs,.own .seen 1 0 os.length none]] [(1,.row .seen os)] (.tup [.vec .u8 (makeE v NV).1,i64 (makeE v NV).2]) [(1,.row .seen os)]:=by
   rw [← hNw] at hmk ⊢;exact hmk
 clear hmk
 generalize makeE v NV = E at *
 obtain ⟨EB,Ee⟩:=E
 dsimp only at *
 have W1 : sb = true → R = (emptyV,120):=fun h=>w1 (.inl h)
 have W2 : ¬ (sp : Int) = b.length → R = (emptyV,120):=fun h=>w1 (.inr (by omega))
 have W3 : ¬ Ee = 0 → R = (emptyV,120):=fun h=>w2 (by
   cases hm : makeB v NV with
   | false=>rfl
   | true=>rw [hm] at hEe;exact absurd hEe h)
 have W4 : eqv EB b = false → R = (emptyV,120):=fun h=>by
   cases hm : makeB v NV with
   | false=>exact w2 hm
   | true =>
     rw [hm] at hEl
     rw [show EB = makeY v NV from hEl] at h
     exact w3 (eqv_false.1 h)
 have W5 : sb = false → (sp : Int) = b.length → Ee = 0 → eqv EB b = true → R = (⟨t,⟨id,x,y,bag,w - 1,off,decide (ag = 1)⟩,cs,os⟩,0):=fun h1 h2 h3 h4=>by
   rw [hNw]
   cases hm : makeB v NV with
   | false=>rw [hm] at hEe;rw [show Ee = 113 from hEe] at h3;cases h3
   | true =>
     rw [hm] at hEl
     rw [show EB = makeY v NV from hEl] at h4
     exact w4 h1 (by omega) hm (eqv_iff.1 h4)
 have hEB : EB.length ≤ 9000000000000000000:=by
   cases hm : makeB v NV with
   | false=>rw [hm] at hEl;rw [show EB = [] from hEl];simp
   | true =>
     rw [hm] at hEl
     rw [show EB = makeY v NV from hEl]
     unfold makeB at hm
     rw [Bool.and_eq_true] at hm
     exact Nat.le_trans (makeY_le hm.1) (by decide)
 have heq:=heq hEB
 clear w1 w2 w3 w4 hEl hEe hEB hN hNo hNw
 have hoff : (0 ≤ w - 1 ∧ Ev1 Tryz.prog 101 [.ptr 0 0] [(0,.box [.vec .u8 b,i64 ap,bol ab])] (.vec .slot off) [(0,.box [.vec .u8 b,i64 op,bol ob])]) ∨ (w - 1 < 0 ∧ off = [] ∧ ap = op ∧ ab = ob):=by
   by_cases hw : 0 ≤ w - 1
   · left
     rw [if_pos hw] at eo
     rw [← eo] at g8
     exact ⟨hw,g8⟩
   · right
     rw [if_neg hw] at eo
     exact ⟨by omega,congrArg Prod.fst eo,(congrArg (fun z=>z.2.pos) eo).symm,(congrArg (fun z=>z.2.bad) eo).symm⟩
 clear g8 eo
 change Ev1 _ _ _ [(0,.box [.vec .u8 b,i64 (0 : Nat),bol false])] _ [(0,.box [.vec .u8 b,i64 tp,bol tb])] at g1
 change Ev1 _ _ _ [(0,.box [.vec .u8 b,i64 tp,bol tb])] _ [(0,.box [.vec .u8 b,i64 ip,bol ib])] at g2
 change Ev1 _ _ _ [(0,.box [.vec .u8 b,i64 ip,bol ib])] _ [(0,.box [.vec .u8 b,i64 xp,bol xb])] at g3
 change Ev1 _ _ _ [(0,.box [.vec .u8 b,i64 xp,bol xb])] _ [(0,.box [.vec .u8 b,i64 yp,bol yb])] at g4
 change Ev1 _ _ _ [(0,.box [.vec .u8 b,i64 yp,bol yb])] _ [(0,.box [.vec .u8 b,i64 bp,bol bb])] at g5
 change Ev1 _ _ _ [(0,.box [.vec .u8 b,i64 bp,bol bb])] _ [(0,.box [.vec .u8 b,i64 wp,bol wb])] at g6
 change Ev1 _ _ _ [(0,.box [.vec .u8 b,i64 wp,bol wb])] _ [(0,.box [.vec .u8 b,i64 ap,bol ab])] at g7
 change Ev1 _ _ _ [(0,.box [.vec .u8 b,i64 op,bol ob])] _ [(0,.box [.vec .u8 b,i64 np,bol nb])] at g9
 change Ev1 _ _ _ [(0,.box [.vec .u8 b,i64 cp,bol cb])] _ [(0,.box [.vec .u8 b,i64 mp,bol mb])] at g10
 refine Api.of_fin cfg_ok Tryz.func38 rfl (nt:=137) rfl rfl ?_
 ((repeat (first|(with_reducible refine evCut fun N hN hE hT=>?_)|(with_reducible refine evBlk fun N hN hE hT=>?_)));(try with_reducible refine evCnd fun X Y hX hY=>?_);(conv=>whnf))
 repeat' (first|exact trivial|((first|((first|refine hT _ _ ?_|refine hE _ _ _ ?_|refine hN _ _ ?_);clear hN hE hT)|((first|refine hX ?_|refine hY ?_);clear hX hY)|refine kL ?_|(refine ⟨fun hb=>?_,fun hb=>?_⟩<;>(try simp only [nrm] at hb)<;>(try (first|(exfalso;omega)|contradiction|exact kB hb)))|refine kA hb1 ?_|refine kD hb1 ?_|refine kW cfg_ok ?_|refine kC ?_|refine bdA ?_|refine bd2 ?_|refine bdR ?_|refine bdL ?_)<;>((repeat (first|(with_reducible refine evCut fun N hN hE hT=>?_)|(with_reducible refine evBlk fun N hN hE hT=>?_)));(try with_reducible refine evCnd fun X Y hX hY=>?_);(conv=>whnf)))|(refine And.intro ?_ ?_;rotate_left;(conv=>whnf);rotate_right))
 refine Runs.loopS cfg_ok (σ:=Nat × (Int × Int × Int × Int) × Nat × Bool) [1,2,4,6,7,29,30] (fun (k,(c0,c1,c2,c3),p,u)=>[.vec .u8 b,.ptr 4 0,.ptr 8 0,.ptr 42 0,.ptr 14 0,.agg [.ptr 14 0,.ptr 14 1,.ptr 14 2,.ptr 14 3],i64 k]) (fun (k,(c0,c1,c2,c3),p,u)=>[(4,.box (viewC v)),(8,.box (viewC emptyV)),(42,.box [.vec .u8 b,i64 p,bol u]),(14,.box [i64 c0,i64 c1,i64 c2,i64 c3,.lit (.slice none 0 0),i64 0,.lit (.slice none 0 0),.ff,.lit (.slice none 0 0),.lit (.slice none 0 0)])])
   (fun s=>s = (0,(0,0,0,0),0,false) ∨ s = (1,(t,0,0,0),tp,tb) ∨ s = (2,(t,id,0,0),ip,ib) ∨ s = (3,(t,id,x,0),xp,xb) ∨ s = (4,(t,id,x,y),yp,yb)) (fun (k,_,_,_)=>4 - k) (0,(0,0,0,0),0,false) (.inl rfl) ?_ ?_
 · conv=>whnf
   repeat' (first|exact trivial|((first|((first|refine hT _ _ ?_|refine hE _ _ _ ?_|refine hN _ _ ?_);clear hN hE hT)|((first|refine hX ?_|refine hY ?_);clear hX hY)|refine kL ?_|(refine ⟨fun hb=>?_,fun hb=>?_⟩<;>(try simp only [nrm] at hb)<;>(try (first|(exfalso;omega)|contradiction|exact kB hb)))|refine kW cfg_ok ?_|refine kC ?_|refine bdA ?_|refine bd2 ?_|refine bdR ?_|refine bdL ?_)<;>((repeat (first|(with_reducible refine evCut fun N hN hE hT=>?_)|(with_reducible refine evBlk fun N hN hE hT=>?_)));(try with_reducible refine evCnd fun X Y hX hY=>?_);(conv=>whnf)))|(refine And.intro ?_ ?_;rotate_left;(conv=>whnf);rotate_right))
   all_goals trace_state
 · rintro s (h|h|h|h|h)
   · rw [h]
     conv=>whnf
     repeat' (first|exact trivial|((first|((first|refine hT _ _ ?_|refine hE _ _ _ ?_|refine hN _ _ ?_);clear hN hE hT)|((first|refine hX ?_|refine hY ?_);clear hX hY)|refine kL ?_|(refine ⟨fun hb=>?_,fun hb=>?_⟩<;>(try simp only [nrm] at hb)<;>(try (first|(exfalso;omega)|contradiction|exact kB hb)))|refine kE g1 [(0,42)] rfl ?_ (hrd:=⟨rfl,trivial⟩)|refine kF g1 [(0,42)] rfl ?_ (hrd:=⟨rfl,trivial⟩)|refine kW cfg_ok ?_|refine kC ?_|refine bdA ?_|refine bd2 ?_|refine bdR ?_|refine bdL ?_)<;>((repeat (first|(with_reducible refine evCut fun N hN hE hT=>?_)|(with_reducible refine evBlk fun N hN hE hT=>?_)));(try with_reducible refine evCnd fun X Y hX hY=>?_);(conv=>whnf)))|(refine And.intro ?_ ?_;rotate_left;(conv=>whnf);rotate_right))
     refine .to (1,(t,0,0,0),tp,tb) (.inr (.inl rfl)) (by dsimp only;omega) ?_
     conv=>whnf
     repeat' (first|exact trivial|((first|((first|refine hT _ _ ?_|refine hE _ _ _ ?_|refine hN _ _ ?_);clear hN hE hT)|((first|refine hX ?_|refine hY ?_);clear hX hY)|refine kL ?_|(refine ⟨fun hb=>?_,fun hb=>?_⟩<;>(try simp only [nrm] at hb)<;>(try (first|(exfalso;omega)|contradiction|exact kB hb)))|refine kW cfg_ok ?_|refine kC ?_|refine bdA ?_|refine bd2 ?_|refine bdR ?_|refine bdL ?_)<;>((repeat (first|(with_reducible refine evCut fun N hN hE hT=>?_)|(with_reducible refine evBlk fun N hN hE hT=>?_)));(try with_reducible refine evCnd fun X Y hX hY=>?_);(conv=>whnf)))|(refine And.intro ?_ ?_;rotate_left;(conv=>whnf);rotate_right))
     all_goals trace_state
   · rw [h]
     conv=>whnf
     repeat' (first|exact trivial|((first|((first|refine hT _ _ ?_|refine hE _ _ _ ?_|refine hN _ _ ?_);clear hN hE hT)|((first|refine hX ?_|refine hY ?_);clear hX hY)|refine kL ?_|(refine ⟨fun hb=>?_,fun hb=>?_⟩<;>(try simp only [nrm] at hb)<;>(try (first|(exfalso;omega)|contradiction|exact kB hb)))|refine kE g2 [(0,42)] rfl ?_ (hrd:=⟨rfl,trivial⟩)|refine kF g2 [(0,42)] rfl ?_ (hrd:=⟨rfl,trivial⟩)|refine kW cfg_ok ?_|refine kC ?_|refine bdA ?_|refine bd2 ?_|refine bdR ?_|refine bdL ?_)<;>((repeat (first|(with_reducible refine evCut fun N hN hE hT=>?_)|(with_reducible refine evBlk fun N hN hE hT=>?_)));(try with_reducible refine evCnd fun X Y hX hY=>?_);(conv=>whnf)))|(refine And.intro ?_ ?_;rotate_left;(conv=>whnf);rotate_right))
     refine .to (2,(t,id,0,0),ip,ib) (.inr (.inr (.inl rfl))) (by dsimp only;omega) ?_
     conv=>whnf
     repeat' (first|exact trivial|((first|((first|refine hT _ _ ?_|refine hE _ _ _ ?_|refine hN _ _ ?_);clear hN hE hT)|((first|refine hX ?_|refine hY ?_);clear hX hY)|refine kL ?_|(refine ⟨fun hb=>?_,fun hb=>?_⟩<;>(try simp only [nrm] at hb)<;>(try (first|(exfalso;omega)|contradiction|exact kB hb)))|refine kW cfg_ok ?_|refine kC ?_|refine bdA ?_|refine bd2 ?_|refine bdR ?_|refine bdL ?_)<;>((repeat (first|(with_reducible refine evCut fun N hN hE hT=>?_)|(with_reducible refine evBlk fun N hN hE hT=>?_)));(try with_reducible refine evCnd fun X Y hX hY=>?_);(conv=>whnf)))|(refine And.intro ?_ ?_;rotate_left;(conv=>whnf);rotate_right))
     all_goals trace_state
   · rw [h]
     conv=>whnf
     repeat' (first|exact trivial|((first|((first|refine hT _ _ ?_|refine hE _ _ _ ?_|refine hN _ _ ?_);clear hN hE hT)|((first|refine hX ?_|refine hY ?_);clear hX hY)|refine kL ?_|(refine ⟨fun hb=>?_,fun hb=>?_⟩<;>(try simp only [nrm] at hb)<;>(try (first|(exfalso;omega)|contradiction|exact kB hb)))|refine kE g3 [(0,42)] rfl ?_ (hrd:=⟨rfl,trivial⟩)|refine kF g3 [(0,42)] rfl ?_ (hrd:=⟨rfl,trivial⟩)|refine kW cfg_ok ?_|refine kC ?_|refine bdA ?_|refine bd2 ?_|refine bdR ?_|refine bdL ?_)<;>((repeat (first|(with_reducible refine evCut fun N hN hE hT=>?_)|(with_reducible refine evBlk fun N hN hE hT=>?_)));(try with_reducible refine evCnd fun X Y hX hY=>?_);(conv=>whnf)))|(refine And.intro ?_ ?_;rotate_left;(conv=>whnf);rotate_right))
     refine .to (3,(t,id,x,0),xp,xb) (.inr (.inr (.inr (.inl rfl)))) (by dsimp only;omega) ?_
     conv=>whnf
     repeat' (first|exact trivial|((first|((first|refine hT _ _ ?_|refine hE _ _ _ ?_|refine hN _ _ ?_);clear hN hE hT)|((first|refine hX ?_|refine hY ?_);clear hX hY)|refine kL ?_|(refine ⟨fun hb=>?_,fun hb=>?_⟩<;>(try simp only [nrm] at hb)<;>(try (first|(exfalso;omega)|contradiction|exact kB hb)))|refine kW cfg_ok ?_|refine kC ?_|refine bdA ?_|refine bd2 ?_|refine bdR ?_|refine bdL ?_)<;>((repeat (first|(with_reducible refine evCut fun N hN hE hT=>?_)|(with_reducible refine evBlk fun N hN hE hT=>?_)));(try with_reducible refine evCnd fun X Y hX hY=>?_);(conv=>whnf)))|(refine And.intro ?_ ?_;rotate_left;(conv=>whnf);rotate_right))
     all_goals trace_state
   · rw [h]
     conv=>whnf
     repeat' (first|exact trivial|((first|((first|refine hT _ _ ?_|refine hE _ _ _ ?_|refine hN _ _ ?_);clear hN hE hT)|((first|refine hX ?_|refine hY ?_);clear hX hY)|refine kL ?_|(refine ⟨fun hb=>?_,fun hb=>?_⟩<;>(try simp only [nrm] at hb)<;>(try (first|(exfalso;omega)|contradiction|exact kB hb)))|refine kE g4 [(0,42)] rfl ?_ (hrd:=⟨rfl,trivial⟩)|refine kF g4 [(0,42)] rfl ?_ (hrd:=⟨rfl,trivial⟩)|refine kW cfg_ok ?_|refine kC ?_|refine bdA ?_|refine bd2 ?_|refine bdR ?_|refine bdL ?_)<;>((repeat (first|(with_reducible refine evCut fun N hN hE hT=>?_)|(with_reducible refine evBlk fun N hN hE hT=>?_)));(try with_reducible refine evCnd fun X Y hX hY=>?_);(conv=>whnf)))|(refine And.intro ?_ ?_;rotate_left;(conv=>whnf);rotate_right))
     refine .to (4,(t,id,x,y),yp,yb) (.inr (.inr (.inr (.inr rfl)))) (by dsimp only;omega) ?_
     conv=>whnf
     repeat' (first|exact trivial|((first|((first|refine hT _ _ ?_|refine hE _ _ _ ?_|refine hN _ _ ?_);clear hN hE hT)|((first|refine hX ?_|refine hY ?_);clear hX hY)|refine kL ?_|(refine ⟨fun hb=>?_,fun hb=>?_⟩<;>(try simp only [nrm] at hb)<;>(try (first|(exfalso;omega)|contradiction|exact kB hb)))|refine kW cfg_ok ?_|refine kC ?_|refine bdA ?_|refine bd2 ?_|refine bdR ?_|refine bdL ?_)<;>((repeat (first|(with_reducible refine evCut fun N hN hE hT=>?_)|(with_reducible refine evBlk fun N hN hE hT=>?_)));(try with_reducible refine evCnd fun X Y hX hY=>?_);(conv=>whnf)))|(refine And.intro ?_ ?_;rotate_left;(conv=>whnf);rotate_right))
     all_goals trace_state
   · rw [h]
     clear h g1 g2 g3 g4
     rcases hoff with ⟨hw,g8⟩|⟨hw,o1,o2,o3⟩
     · conv=>whnf
       repeat' (first|exact trivial|((first|((first|refine hT _ _ ?_|refine hE _ _ _ ?_|refine hN _ _ ?_);clear hN hE hT)|((first|refine hX ?_|refine hY ?_);clear hX hY)|refine kL ?_|(refine ⟨fun hb=>?_,fun hb=>?_⟩<;>(try simp only [nrm] at hb)<;>(try (first|(exfalso;omega)|contradiction|exact kB hb)))|refine kE g5 [(0,42)] rfl ?_ (hrd:=⟨rfl,trivial⟩)|refine kF g5 [(0,42)] rfl ?_ (hrd:=⟨rfl,trivial⟩)|refine kE g6 [(0,42)] rfl ?_ (hrd:=⟨rfl,trivial⟩)|refine kF g6 [(0,42)] rfl ?_ (hrd:=⟨rfl,trivial⟩)|refine kE g7 [(0,42)] rfl ?_ (hrd:=⟨rfl,trivial⟩)|refine kF g7 [(0,42)] rfl ?_ (hrd:=⟨rfl,trivial⟩)|refine kE g8 [(0,42)] rfl ?_ (hrd:=⟨rfl,trivial⟩)|refine kF g8 [(0,42)] rfl ?_ (hrd:=⟨rfl,trivial⟩)|refine kE g9 [(0,42)] rfl ?_ (hrd:=⟨rfl,trivial⟩)|refine kF g9 [(0,42)] rfl ?_ (hrd:=⟨rfl,trivial⟩)|refine kW cfg_ok ?_|refine kC ?_|refine bdA ?_|refine bd2 ?_|refine bdR ?_|refine bdL ?_)<;>((repeat (first|(with_reducible refine evCut fun N hN hE hT=>?_)|(with_reducible refine evBlk fun N hN hE hT=>?_)));(try with_reducible refine evCnd fun X Y hX hY=>?_);(conv=>whnf)))|(refine And.intro ?_ ?_;rotate_left;(conv=>whnf);rotate_right))
       clear g5 g6 g7 g8
       refine Runs.loopS cfg_ok (σ:=List (El .chunk) × Nat × Nat × Bool) [1,2,4,6,7,10] (fun (l,r,p,u)=>[.vec .u8 b,.ptr 4 0,.ptr 8 0,.ptr 42 0,.ptr 14 0,i64 r]) (fun (l,r,p,u)=>[(4,.box (viewC v)),(8,.box (viewC emptyV)),(42,.box [.vec .u8 b,i64 p,bol u]),(14,.box [i64 t,i64 id,i64 x,i64 y,.vec .slot bag,i64 (w - 1),.vec .slot off,bol (decide (ag = 1)),.own .chunk 350001 0 l.length none,.lit (.slice none 0 0)]),(350001,.row .chunk l)])
         (fun (l,r,p,u)=>p ≤ b.length ∧ l.length + r ≤ 49 ∧ l ++ (manyR (chunkRS b v) r ⟨p,u⟩).1 = cs ∧ (manyR (chunkRS b v) r ⟨p,u⟩).2 = ⟨cp,cb⟩) (fun (l,r,p,u)=>r) ([],nc.toNat,np,nb) ⟨k9,by show 0 + nc.toNat ≤ 49;omega,(congrArg Prod.fst ec).symm,(congrArg Prod.snd ec).symm⟩ ?_ ?_
       · conv=>whnf
         repeat' (first|exact trivial|((first|((first|refine hT _ _ ?_|refine hE _ _ _ ?_|refine hN _ _ ?_);clear hN hE hT)|((first|refine hX ?_|refine hY ?_);clear hX hY)|refine kL ?_|(refine ⟨fun hb=>?_,fun hb=>?_⟩<;>(try simp only [nrm] at hb)<;>(try (first|(exfalso;omega)|contradiction|exact kB hb)))|refine kW cfg_ok ?_|refine kC ?_|refine bdA ?_|refine bd2 ?_|refine bdR ?_|refine bdL ?_)<;>((repeat (first|(with_reducible refine evCut fun N hN hE hT=>?_)|(with_reducible refine evBlk fun N hN hE hT=>?_)));(try with_reducible refine evCnd fun X Y hX hY=>?_);(conv=>whnf)))|(refine And.intro ?_ ?_;rotate_left;(conv=>whnf);rotate_right))
         all_goals first|rfl|exact List.take_length|exact List.take_of_length_le (by rw [List.drop_zero];omega)|(dsimp only;exact congrArg (Value.int _) (by omega))|exact congrArg (Value.int _) (by omega)|exact row_grow (t:=.chunk)|exact row_grow (t:=.seen)|exact o1.symm|trace_state
       · rintro ⟨l,r,p,u⟩ ⟨i1,i2,i3,i4⟩
         try dsimp only at i1 i2 i3 i4
         by_cases hlive : 0 < r ∧ u = false
         · obtain ⟨hr0,rfl⟩:=hlive
           obtain ⟨r,rfl⟩ : ∃ r' : Nat,r = r' + 1:=⟨r - 1,by omega⟩
           rw [many_next rfl] at i3 i4
           have q1:=rchunk_ev b v ⟨p,false⟩ hv hB h8 hl i1
           have q2 : (chunkRS b v ⟨p,false⟩).2.pos ≤ b.length:=chunkRS_pos h8 i1
           generalize chunkRS b v ⟨p,false⟩ = C at *
           obtain ⟨c,zp,zb⟩:=C
           dsimp only at *
           change Ev1 _ _ _ [(0,.box [.vec .u8 b,i64 p,bol false])] _ [(0,.box [.vec .u8 b,i64 zp,bol zb])] at q1
           conv=>whnf
           repeat' (first|exact trivial|((first|((first|refine hT _ _ ?_|refine hE _ _ _ ?_|refine hN _ _ ?_);clear hN hE hT)|((first|refine hX ?_|refine hY ?_);clear hX hY)|refine kL ?_|(refine ⟨fun hb=>?_,fun hb=>?_⟩<;>(try simp only [nrm] at hb)<;>(try (first|(exfalso;omega)|contradiction|exact kB hb)))|refine kE q1 [(0,42)] rfl ?_ (hrd:=⟨rfl,trivial⟩)|refine kF q1 [(0,42)] rfl ?_ (hrd:=⟨rfl,trivial⟩)|refine kW cfg_ok ?_|refine kC ?_|refine bdA ?_|refine bd2 ?_|refine bdR ?_|refine bdL ?_)<;>((repeat (first|(with_reducible refine evCut fun N hN hE hT=>?_)|(with_reducible refine evBlk fun N hN hE hT=>?_)));(try with_reducible refine evCnd fun X Y hX hY=>?_);(conv=>whnf)))|(refine And.intro ?_ ?_;rotate_left;(conv=>whnf);rotate_right))
           refine .to (l ++ [c],r,zp,zb) ⟨q2,by show (l ++ [_]).length + r ≤ 49;rw [List.length_append,List.length_singleton];omega,by rw [List.append_assoc];exact i3,i4⟩ (by first|omega|(dsimp only;omega)) ?_
           conv=>whnf
           repeat' (first|exact trivial|((first|((first|refine hT _ _ ?_|refine hE _ _ _ ?_|refine hN _ _ ?_);clear hN hE hT)|((first|refine hX ?_|refine hY ?_);clear hX hY)|refine kL ?_|(refine ⟨fun hb=>?_,fun hb=>?_⟩<;>(try simp only [nrm] at hb)<;>(try (first|(exfalso;omega)|contradiction|exact kB hb)))|refine kW cfg_ok ?_|refine kC ?_|refine bdA ?_|refine bd2 ?_|refine bdR ?_|refine bdL ?_)<;>((repeat (first|(with_reducible refine evCut fun N hN hE hT=>?_)|(with_reducible refine evBlk fun N hN hE hT=>?_)));(try with_reducible refine evCnd fun X Y hX hY=>?_);(conv=>whnf)))|(refine And.intro ?_ ?_;rotate_left;(conv=>whnf);rotate_right))
           all_goals first|rfl|exact List.take_length|exact List.take_of_length_le (by rw [List.drop_zero];omega)|(dsimp only;exact congrArg (Value.int _) (by omega))|exact congrArg (Value.int _) (by omega)|exact row_grow (t:=.chunk)|exact row_grow (t:=.seen)|exact o1.symm|trace_state
         · rw [many_dead hlive] at i3 i4
           obtain rfl : cs = l:=by rw [← i3];simp
           obtain ⟨d2,d3⟩:=Rd.mk.inj i4
           obtain rfl : cp = p:=d2.symm
           obtain rfl : cb = u:=d3.symm
           clear i3 i4 d2 d3 g9
           conv=>whnf
           repeat' (first|exact trivial|((first|((first|refine hT _ _ ?_|refine hE _ _ _ ?_|refine hN _ _ ?_);clear hN hE hT)|((first|refine hX ?_|refine hY ?_);clear hX hY)|refine kL ?_|(refine ⟨fun hb=>?_,fun hb=>?_⟩<;>(try simp only [nrm] at hb)<;>(try (first|(exfalso;omega)|contradiction|exact kB hb)))|refine kE g10 [(0,42)] rfl ?_ (hrd:=⟨rfl,trivial⟩)|refine kF g10 [(0,42)] rfl ?_ (hrd:=⟨rfl,trivial⟩)|refine kW cfg_ok ?_|refine kC ?_|refine bdA ?_|refine bd2 ?_|refine bdR ?_|refine bdL ?_)<;>((repeat (first|(with_reducible refine evCut fun N hN hE hT=>?_)|(with_reducible refine evBlk fun N hN hE hT=>?_)));(try with_reducible refine evCnd fun X Y hX hY=>?_);(conv=>whnf)))|(refine And.intro ?_ ?_;rotate_left;(conv=>whnf);rotate_right))
           all_goals (try (exact absurd ⟨by omega,by simpa using hb⟩ hlive))
           all_goals
             refine Runs.loopS cfg_ok (σ:=List (El .seen) × Nat × Nat × Bool) [1,2,4,6,7,11] (fun (l,r,p,u)=>[.vec .u8 b,.ptr 4 0,.ptr 8 0,.ptr 42 0,.ptr 14 0,i64 r]) (fun (l,r,p,u)=>[(4,.box (viewC v)),(8,.box (viewC emptyV)),(42,.box [.vec .u8 b,i64 p,bol u]),(14,.box [i64 t,i64 id,i64 x,i64 y,.vec .slot bag,i64 (w - 1),.vec .slot off,bol (decide (ag = 1)),.vec .chunk cs,.own .seen 215 0 l.length none]),(215,.row .seen l)])
               (fun (l,r,p,u)=>p ≤ b.length ∧ l.length + r ≤ 32 ∧ l ++ (manyR (seenR b) r ⟨p,u⟩).1 = os ∧ (manyR (seenR b) r ⟨p,u⟩).2 = ⟨sp,sb⟩) (fun (l,r,p,u)=>r) ([],no.toNat,mp,mb) ⟨k11,by show 0 + no.toNat ≤ 32;omega,(congrArg Prod.fst es).symm,(congrArg Prod.snd es).symm⟩ ?_ ?_
             · conv=>whnf
               repeat' (first|exact trivial|((first|((first|refine hT _ _ ?_|refine hE _ _ _ ?_|refine hN _ _ ?_);clear hN hE hT)|((first|refine hX ?_|refine hY ?_);clear hX hY)|refine kL ?_|(refine ⟨fun hb=>?_,fun hb=>?_⟩<;>(try simp only [nrm] at hb)<;>(try (first|(exfalso;omega)|contradiction|exact kB hb)))|refine kW cfg_ok ?_|refine kC ?_|refine bdA ?_|refine bd2 ?_|refine bdR ?_|refine bdL ?_)<;>((repeat (first|(with_reducible refine evCut fun N hN hE hT=>?_)|(with_reducible refine evBlk fun N hN hE hT=>?_)));(try with_reducible refine evCnd fun X Y hX hY=>?_);(conv=>whnf)))|(refine And.intro ?_ ?_;rotate_left;(conv=>whnf);rotate_right))
               all_goals first|rfl|exact List.take_length|exact List.take_of_length_le (by rw [List.drop_zero];omega)|(dsimp only;exact congrArg (Value.int _) (by omega))|exact congrArg (Value.int _) (by omega)|exact row_grow (t:=.chunk)|exact row_grow (t:=.seen)|exact o1.symm|trace_state
             · rintro ⟨l,r2,p,u⟩ ⟨i1,i2,i3,i4⟩
               try dsimp only at i1 i2 i3 i4
               by_cases hlive2 : 0 < r2 ∧ u = false
               · obtain ⟨hr0,rfl⟩:=hlive2
                 obtain ⟨r2,rfl⟩ : ∃ r' : Nat,r2 = r' + 1:=⟨r2 - 1,by omega⟩
                 rw [many_next rfl] at i3 i4
                 have q1:=snum_ev b ⟨p,false⟩ B40 h8 hl i1 (by decide)
                 have q2 : (numI b B40 ⟨p,false⟩).2.pos ≤ b.length:=numI_pos h8 i1
                 have q3:=snum_ev b (numI b B40 ⟨p,false⟩).2 B40 h8 hl q2 (by decide)
                 have q4 : (numI b B40 (numI b B40 ⟨p,false⟩).2).2.pos ≤ b.length:=numI_pos h8 q2
                 have q5:=snum_ev b (numI b B40 (numI b B40 ⟨p,false⟩).2).2 B40 h8 hl q4 (by decide)
                 have q6 : (numI b B40 (numI b B40 (numI b B40 ⟨p,false⟩).2).2).2.pos ≤ b.length:=numI_pos h8 q4
                 have q7 : seenR b ⟨p,false⟩ = (⟨(numI b B40 ⟨p,false⟩).1,(numI b B40 (numI b B40 ⟨p,false⟩).2).1,(numI b B40 (numI b B40 (numI b B40 ⟨p,false⟩).2).2).1⟩,(numI b B40 (numI b B40 (numI b B40 ⟨p,false⟩).2).2).2):=rfl
                 rw [q7] at i3 i4
                 clear q7
                 generalize numI b B40 ⟨p,false⟩ = A1 at *
                 obtain ⟨a1,a2,a3⟩:=A1
                 dsimp only at *
                 generalize numI b B40 ⟨a2,a3⟩ = A2 at *
                 obtain ⟨e1,e2,e3⟩:=A2
                 dsimp only at *
                 generalize numI b B40 ⟨e2,e3⟩ = A3 at *
                 obtain ⟨f1,f2,f3⟩:=A3
                 dsimp only at *
                 change Ev1 _ _ _ [(0,.box [.vec .u8 b,i64 p,bol false])] _ [(0,.box [.vec .u8 b,i64 a2,bol a3])] at q1
                 change Ev1 _ _ _ [(0,.box [.vec .u8 b,i64 a2,bol a3])] _ [(0,.box [.vec .u8 b,i64 e2,bol e3])] at q3
                 change Ev1 _ _ _ [(0,.box [.vec .u8 b,i64 e2,bol e3])] _ [(0,.box [.vec .u8 b,i64 f2,bol f3])] at q5
                 conv=>whnf
                 repeat' (first|exact trivial|((first|((first|refine hT _ _ ?_|refine hE _ _ _ ?_|refine hN _ _ ?_);clear hN hE hT)|((first|refine hX ?_|refine hY ?_);clear hX hY)|refine kL ?_|(refine ⟨fun hb=>?_,fun hb=>?_⟩<;>(try simp only [nrm] at hb)<;>(try (first|(exfalso;omega)|contradiction|exact kB hb)))|refine kE q1 [(0,42)] rfl ?_ (hrd:=⟨rfl,trivial⟩)|refine kF q1 [(0,42)] rfl ?_ (hrd:=⟨rfl,trivial⟩)|refine kE q3 [(0,42)] rfl ?_ (hrd:=⟨rfl,trivial⟩)|refine kF q3 [(0,42)] rfl ?_ (hrd:=⟨rfl,trivial⟩)|refine kE q5 [(0,42)] rfl ?_ (hrd:=⟨rfl,trivial⟩)|refine kF q5 [(0,42)] rfl ?_ (hrd:=⟨rfl,trivial⟩)|refine kW cfg_ok ?_|refine kC ?_|refine bdA ?_|refine bd2 ?_|refine bdR ?_|refine bdL ?_)<;>((repeat (first|(with_reducible refine evCut fun N hN hE hT=>?_)|(with_reducible refine evBlk fun N hN hE hT=>?_)));(try with_reducible refine evCnd fun X Y hX hY=>?_);(conv=>whnf)))|(refine And.intro ?_ ?_;rotate_left;(conv=>whnf);rotate_right))
                 refine .to (l ++ [⟨a1,e1,f1⟩],r2,f2,f3) ⟨q6,by show (l ++ [_]).length + r2 ≤ 32;rw [List.length_append,List.length_singleton];omega,by rw [List.append_assoc];exact i3,i4⟩ (by first|omega|(dsimp only;omega)) ?_
                 conv=>whnf
                 repeat' (first|exact trivial|((first|((first|refine hT _ _ ?_|refine hE _ _ _ ?_|refine hN _ _ ?_);clear hN hE hT)|((first|refine hX ?_|refine hY ?_);clear hX hY)|refine kL ?_|(refine ⟨fun hb=>?_,fun hb=>?_⟩<;>(try simp only [nrm] at hb)<;>(try (first|(exfalso;omega)|contradiction|exact kB hb)))|refine kW cfg_ok ?_|refine kC ?_|refine bdA ?_|refine bd2 ?_|refine bdR ?_|refine bdL ?_)<;>((repeat (first|(with_reducible refine evCut fun N hN hE hT=>?_)|(with_reducible refine evBlk fun N hN hE hT=>?_)));(try with_reducible refine evCnd fun X Y hX hY=>?_);(conv=>whnf)))|(refine And.intro ?_ ?_;rotate_left;(conv=>whnf);rotate_right))
                 all_goals first|rfl|exact List.take_length|exact List.take_of_length_le (by rw [List.drop_zero];omega)|(dsimp only;exact congrArg (Value.int _) (by omega))|exact congrArg (Value.int _) (by omega)|exact row_grow (t:=.chunk)|exact row_grow (t:=.seen)|exact o1.symm|trace_state
               · rw [many_dead hlive2] at i3 i4
                 obtain rfl : os = l:=by rw [← i3];simp
                 obtain ⟨d2,d3⟩:=Rd.mk.inj i4
                 obtain rfl : sp = p:=d2.symm
                 obtain rfl : sb = u:=d3.symm
                 clear i3 i4 d2 d3
                 conv=>whnf
                 repeat' (first|exact trivial|((first|((first|refine hT _ _ ?_|refine hE _ _ _ ?_|refine hN _ _ ?_);clear hN hE hT)|((first|refine hX ?_|refine hY ?_);clear hX hY)|refine kL ?_|(refine ⟨fun hb=>?_,fun hb=>?_⟩<;>(try simp only [nrm] at hb)<;>(try (first|(exfalso;omega)|contradiction|exact kB hb)))|refine kE hmk2 [(1,215)] rfl ?_ (hrd:=⟨rfl,trivial⟩)|refine kF hmk2 [(1,215)] rfl ?_ (hrd:=⟨rfl,trivial⟩)|refine kA heq ?_|refine kD heq ?_|refine kW cfg_ok ?_|refine kC ?_|refine bdA ?_|refine bd2 ?_|refine bdR ?_|refine bdL ?_)<;>((repeat (first|(with_reducible refine evCut fun N hN hE hT=>?_)|(with_reducible refine evBlk fun N hN hE hT=>?_)));(try with_reducible refine evCnd fun X Y hX hY=>?_);(conv=>whnf)))|(refine And.intro ?_ ?_;rotate_left;(conv=>whnf);rotate_right))
                 all_goals (try (exact absurd ⟨by omega,by simpa using hb⟩ hlive2))
                 all_goals first|(rw [W1 (by assumption)];first|done|rfl)|(rw [W2 (by assumption)];first|done|rfl)|(rw [W3 (by assumption)];first|done|rfl)|(rw [W4 (by assumption)];first|done|rfl)|(rw [W5 (by assumption) (by assumption) (by assumption) (by assumption)];first|done|rfl|exact List.take_length)|trace_state
     · rw [o2,o3] at g7
       conv=>whnf
       repeat' (first|exact trivial|((first|((first|refine hT _ _ ?_|refine hE _ _ _ ?_|refine hN _ _ ?_);clear hN hE hT)|((first|refine hX ?_|refine hY ?_);clear hX hY)|refine kL ?_|(refine ⟨fun hb=>?_,fun hb=>?_⟩<;>(try simp only [nrm] at hb)<;>(try (first|(exfalso;omega)|contradiction|exact kB hb)))|refine kE g5 [(0,42)] rfl ?_ (hrd:=⟨rfl,trivial⟩)|refine kF g5 [(0,42)] rfl ?_ (hrd:=⟨rfl,trivial⟩)|refine kE g6 [(0,42)] rfl ?_ (hrd:=⟨rfl,trivial⟩)|refine kF g6 [(0,42)] rfl ?_ (hrd:=⟨rfl,trivial⟩)|refine kE g7 [(0,42)] rfl ?_ (hrd:=⟨rfl,trivial⟩)|refine kF g7 [(0,42)] rfl ?_ (hrd:=⟨rfl,trivial⟩)|refine kE g9 [(0,42)] rfl ?_ (hrd:=⟨rfl,trivial⟩)|refine kF g9 [(0,42)] rfl ?_ (hrd:=⟨rfl,trivial⟩)|refine kW cfg_ok ?_|refine kC ?_|refine bdA ?_|refine bd2 ?_|refine bdR ?_|refine bdL ?_)<;>((repeat (first|(with_reducible refine evCut fun N hN hE hT=>?_)|(with_reducible refine evBlk fun N hN hE hT=>?_)));(try with_reducible refine evCnd fun X Y hX hY=>?_);(conv=>whnf)))|(refine And.intro ?_ ?_;rotate_left;(conv=>whnf);rotate_right))
       clear g5 g6 g7
       refine Runs.loopS cfg_ok (σ:=List (El .chunk) × Nat × Nat × Bool) [1,2,4,6,7,10] (fun (l,r,p,u)=>[.vec .u8 b,.ptr 4 0,.ptr 8 0,.ptr 42 0,.ptr 14 0,i64 r]) (fun (l,r,p,u)=>[(4,.box (viewC v)),(8,.box (viewC emptyV)),(42,.box [.vec .u8 b,i64 p,bol u]),(14,.box [i64 t,i64 id,i64 x,i64 y,.vec .slot bag,i64 (w - 1),.vec .slot off,bol (decide (ag = 1)),.own .chunk 350001 0 l.length none,.lit (.slice none 0 0)]),(350001,.row .chunk l)])
         (fun (l,r,p,u)=>p ≤ b.length ∧ l.length + r ≤ 49 ∧ l ++ (manyR (chunkRS b v) r ⟨p,u⟩).1 = cs ∧ (manyR (chunkRS b v) r ⟨p,u⟩).2 = ⟨cp,cb⟩) (fun (l,r,p,u)=>r) ([],nc.toNat,np,nb) ⟨k9,by show 0 + nc.toNat ≤ 49;omega,(congrArg Prod.fst ec).symm,(congrArg Prod.snd ec).symm⟩ ?_ ?_
       · conv=>whnf
         repeat' (first|exact trivial|((first|((first|refine hT _ _ ?_|refine hE _ _ _ ?_|refine hN _ _ ?_);clear hN hE hT)|((first|refine hX ?_|refine hY ?_);clear hX hY)|refine kL ?_|(refine ⟨fun hb=>?_,fun hb=>?_⟩<;>(try simp only [nrm] at hb)<;>(try (first|(exfalso;omega)|contradiction|exact kB hb)))|refine kW cfg_ok ?_|refine kC ?_|refine bdA ?_|refine bd2 ?_|refine bdR ?_|refine bdL ?_)<;>((repeat (first|(with_reducible refine evCut fun N hN hE hT=>?_)|(with_reducible refine evBlk fun N hN hE hT=>?_)));(try with_reducible refine evCnd fun X Y hX hY=>?_);(conv=>whnf)))|(refine And.intro ?_ ?_;rotate_left;(conv=>whnf);rotate_right))
         all_goals first|rfl|exact List.take_length|exact List.take_of_length_le (by rw [List.drop_zero];omega)|(dsimp only;exact congrArg (Value.int _) (by omega))|exact congrArg (Value.int _) (by omega)|exact row_grow (t:=.chunk)|exact row_grow (t:=.seen)|exact o1.symm|trace_state
       · rintro ⟨l,r,p,u⟩ ⟨i1,i2,i3,i4⟩
         try dsimp only at i1 i2 i3 i4
         by_cases hlive : 0 < r ∧ u = false
         · obtain ⟨hr0,rfl⟩:=hlive
           obtain ⟨r,rfl⟩ : ∃ r' : Nat,r = r' + 1:=⟨r - 1,by omega⟩
           rw [many_next rfl] at i3 i4
           have q1:=rchunk_ev b v ⟨p,false⟩ hv hB h8 hl i1
           have q2 : (chunkRS b v ⟨p,false⟩).2.pos ≤ b.length:=chunkRS_pos h8 i1
           generalize chunkRS b v ⟨p,false⟩ = C at *
           obtain ⟨c,zp,zb⟩:=C
           dsimp only at *
           change Ev1 _ _ _ [(0,.box [.vec .u8 b,i64 p,bol false])] _ [(0,.box [.vec .u8 b,i64 zp,bol zb])] at q1
           conv=>whnf
           repeat' (first|exact trivial|((first|((first|refine hT _ _ ?_|refine hE _ _ _ ?_|refine hN _ _ ?_);clear hN hE hT)|((first|refine hX ?_|refine hY ?_);clear hX hY)|refine kL ?_|(refine ⟨fun hb=>?_,fun hb=>?_⟩<;>(try simp only [nrm] at hb)<;>(try (first|(exfalso;omega)|contradiction|exact kB hb)))|refine kE q1 [(0,42)] rfl ?_ (hrd:=⟨rfl,trivial⟩)|refine kF q1 [(0,42)] rfl ?_ (hrd:=⟨rfl,trivial⟩)|refine kW cfg_ok ?_|refine kC ?_|refine bdA ?_|refine bd2 ?_|refine bdR ?_|refine bdL ?_)<;>((repeat (first|(with_reducible refine evCut fun N hN hE hT=>?_)|(with_reducible refine evBlk fun N hN hE hT=>?_)));(try with_reducible refine evCnd fun X Y hX hY=>?_);(conv=>whnf)))|(refine And.intro ?_ ?_;rotate_left;(conv=>whnf);rotate_right))
           refine .to (l ++ [c],r,zp,zb) ⟨q2,by show (l ++ [_]).length + r ≤ 49;rw [List.length_append,List.length_singleton];omega,by rw [List.append_assoc];exact i3,i4⟩ (by first|omega|(dsimp only;omega)) ?_
           conv=>whnf
           repeat' (first|exact trivial|((first|((first|refine hT _ _ ?_|refine hE _ _ _ ?_|refine hN _ _ ?_);clear hN hE hT)|((first|refine hX ?_|refine hY ?_);clear hX hY)|refine kL ?_|(refine ⟨fun hb=>?_,fun hb=>?_⟩<;>(try simp only [nrm] at hb)<;>(try (first|(exfalso;omega)|contradiction|exact kB hb)))|refine kW cfg_ok ?_|refine kC ?_|refine bdA ?_|refine bd2 ?_|refine bdR ?_|refine bdL ?_)<;>((repeat (first|(with_reducible refine evCut fun N hN hE hT=>?_)|(with_reducible refine evBlk fun N hN hE hT=>?_)));(try with_reducible refine evCnd fun X Y hX hY=>?_);(conv=>whnf)))|(refine And.intro ?_ ?_;rotate_left;(conv=>whnf);rotate_right))
           all_goals first|rfl|exact List.take_length|exact List.take_of_length_le (by rw [List.drop_zero];omega)|(dsimp only;exact congrArg (Value.int _) (by omega))|exact congrArg (Value.int _) (by omega)|exact row_grow (t:=.chunk)|exact row_grow (t:=.seen)|exact o1.symm|trace_state
         · rw [many_dead hlive] at i3 i4
           obtain rfl : cs = l:=by rw [← i3];simp
           obtain ⟨d2,d3⟩:=Rd.mk.inj i4
           obtain rfl : cp = p:=d2.symm
           obtain rfl : cb = u:=d3.symm
           clear i3 i4 d2 d3 g9
           conv=>whnf
           repeat' (first|exact trivial|((first|((first|refine hT _ _ ?_|refine hE _ _ _ ?_|refine hN _ _ ?_);clear hN hE hT)|((first|refine hX ?_|refine hY ?_);clear hX hY)|refine kL ?_|(refine ⟨fun hb=>?_,fun hb=>?_⟩<;>(try simp only [nrm] at hb)<;>(try (first|(exfalso;omega)|contradiction|exact kB hb)))|refine kE g10 [(0,42)] rfl ?_ (hrd:=⟨rfl,trivial⟩)|refine kF g10 [(0,42)] rfl ?_ (hrd:=⟨rfl,trivial⟩)|refine kW cfg_ok ?_|refine kC ?_|refine bdA ?_|refine bd2 ?_|refine bdR ?_|refine bdL ?_)<;>((repeat (first|(with_reducible refine evCut fun N hN hE hT=>?_)|(with_reducible refine evBlk fun N hN hE hT=>?_)));(try with_reducible refine evCnd fun X Y hX hY=>?_);(conv=>whnf)))|(refine And.intro ?_ ?_;rotate_left;(conv=>whnf);rotate_right))
           all_goals (try (exact absurd ⟨by omega,by simpa using hb⟩ hlive))
           all_goals
             refine Runs.loopS cfg_ok (σ:=List (El .seen) × Nat × Nat × Bool) [1,2,4,6,7,11] (fun (l,r,p,u)=>[.vec .u8 b,.ptr 4 0,.ptr 8 0,.ptr 42 0,.ptr 14 0,i64 r]) (fun (l,r,p,u)=>[(4,.box (viewC v)),(8,.box (viewC emptyV)),(42,.box [.vec .u8 b,i64 p,bol u]),(14,.box [i64 t,i64 id,i64 x,i64 y,.vec .slot bag,i64 (w - 1),.vec .slot off,bol (decide (ag = 1)),.vec .chunk cs,.own .seen 215 0 l.length none]),(215,.row .seen l)])
               (fun (l,r,p,u)=>p ≤ b.length ∧ l.length + r ≤ 32 ∧ l ++ (manyR (seenR b) r ⟨p,u⟩).1 = os ∧ (manyR (seenR b) r ⟨p,u⟩).2 = ⟨sp,sb⟩) (fun (l,r,p,u)=>r) ([],no.toNat,mp,mb) ⟨k11,by show 0 + no.toNat ≤ 32;omega,(congrArg Prod.fst es).symm,(congrArg Prod.snd es).symm⟩ ?_ ?_
             · conv=>whnf
               repeat' (first|exact trivial|((first|((first|refine hT _ _ ?_|refine hE _ _ _ ?_|refine hN _ _ ?_);clear hN hE hT)|((first|refine hX ?_|refine hY ?_);clear hX hY)|refine kL ?_|(refine ⟨fun hb=>?_,fun hb=>?_⟩<;>(try simp only [nrm] at hb)<;>(try (first|(exfalso;omega)|contradiction|exact kB hb)))|refine kW cfg_ok ?_|refine kC ?_|refine bdA ?_|refine bd2 ?_|refine bdR ?_|refine bdL ?_)<;>((repeat (first|(with_reducible refine evCut fun N hN hE hT=>?_)|(with_reducible refine evBlk fun N hN hE hT=>?_)));(try with_reducible refine evCnd fun X Y hX hY=>?_);(conv=>whnf)))|(refine And.intro ?_ ?_;rotate_left;(conv=>whnf);rotate_right))
               all_goals first|rfl|exact List.take_length|exact List.take_of_length_le (by rw [List.drop_zero];omega)|(dsimp only;exact congrArg (Value.int _) (by omega))|exact congrArg (Value.int _) (by omega)|exact row_grow (t:=.chunk)|exact row_grow (t:=.seen)|exact o1.symm|trace_state
             · rintro ⟨l,r2,p,u⟩ ⟨i1,i2,i3,i4⟩
               try dsimp only at i1 i2 i3 i4
               by_cases hlive2 : 0 < r2 ∧ u = false
               · obtain ⟨hr0,rfl⟩:=hlive2
                 obtain ⟨r2,rfl⟩ : ∃ r' : Nat,r2 = r' + 1:=⟨r2 - 1,by omega⟩
                 rw [many_next rfl] at i3 i4
                 have q1:=snum_ev b ⟨p,false⟩ B40 h8 hl i1 (by decide)
                 have q2 : (numI b B40 ⟨p,false⟩).2.pos ≤ b.length:=numI_pos h8 i1
                 have q3:=snum_ev b (numI b B40 ⟨p,false⟩).2 B40 h8 hl q2 (by decide)
                 have q4 : (numI b B40 (numI b B40 ⟨p,false⟩).2).2.pos ≤ b.length:=numI_pos h8 q2
                 have q5:=snum_ev b (numI b B40 (numI b B40 ⟨p,false⟩).2).2 B40 h8 hl q4 (by decide)
                 have q6 : (numI b B40 (numI b B40 (numI b B40 ⟨p,false⟩).2).2).2.pos ≤ b.length:=numI_pos h8 q4
                 have q7 : seenR b ⟨p,false⟩ = (⟨(numI b B40 ⟨p,false⟩).1,(numI b B40 (numI b B40 ⟨p,false⟩).2).1,(numI b B40 (numI b B40 (numI b B40 ⟨p,false⟩).2).2).1⟩,(numI b B40 (numI b B40 (numI b B40 ⟨p,false⟩).2).2).2):=rfl
                 rw [q7] at i3 i4
                 clear q7
                 generalize numI b B40 ⟨p,false⟩ = A1 at *
                 obtain ⟨a1,a2,a3⟩:=A1
                 dsimp only at *
                 generalize numI b B40 ⟨a2,a3⟩ = A2 at *
                 obtain ⟨e1,e2,e3⟩:=A2
                 dsimp only at *
                 generalize numI b B40 ⟨e2,e3⟩ = A3 at *
                 obtain ⟨f1,f2,f3⟩:=A3
                 dsimp only at *
                 change Ev1 _ _ _ [(0,.box [.vec .u8 b,i64 p,bol false])] _ [(0,.box [.vec .u8 b,i64 a2,bol a3])] at q1
                 change Ev1 _ _ _ [(0,.box [.vec .u8 b,i64 a2,bol a3])] _ [(0,.box [.vec .u8 b,i64 e2,bol e3])] at q3
                 change Ev1 _ _ _ [(0,.box [.vec .u8 b,i64 e2,bol e3])] _ [(0,.box [.vec .u8 b,i64 f2,bol f3])] at q5
                 conv=>whnf
                 repeat' (first|exact trivial|((first|((first|refine hT _ _ ?_|refine hE _ _ _ ?_|refine hN _ _ ?_);clear hN hE hT)|((first|refine hX ?_|refine hY ?_);clear hX hY)|refine kL ?_|(refine ⟨fun hb=>?_,fun hb=>?_⟩<;>(try simp only [nrm] at hb)<;>(try (first|(exfalso;omega)|contradiction|exact kB hb)))|refine kE q1 [(0,42)] rfl ?_ (hrd:=⟨rfl,trivial⟩)|refine kF q1 [(0,42)] rfl ?_ (hrd:=⟨rfl,trivial⟩)|refine kE q3 [(0,42)] rfl ?_ (hrd:=⟨rfl,trivial⟩)|refine kF q3 [(0,42)] rfl ?_ (hrd:=⟨rfl,trivial⟩)|refine kE q5 [(0,42)] rfl ?_ (hrd:=⟨rfl,trivial⟩)|refine kF q5 [(0,42)] rfl ?_ (hrd:=⟨rfl,trivial⟩)|refine kW cfg_ok ?_|refine kC ?_|refine bdA ?_|refine bd2 ?_|refine bdR ?_|refine bdL ?_)<;>((repeat (first|(with_reducible refine evCut fun N hN hE hT=>?_)|(with_reducible refine evBlk fun N hN hE hT=>?_)));(try with_reducible refine evCnd fun X Y hX hY=>?_);(conv=>whnf)))|(refine And.intro ?_ ?_;rotate_left;(conv=>whnf);rotate_right))
                 refine .to (l ++ [⟨a1,e1,f1⟩],r2,f2,f3) ⟨q6,by show (l ++ [_]).length + r2 ≤ 32;rw [List.length_append,List.length_singleton];omega,by rw [List.append_assoc];exact i3,i4⟩ (by first|omega|(dsimp only;omega)) ?_
                 conv=>whnf
                 repeat' (first|exact trivial|((first|((first|refine hT _ _ ?_|refine hE _ _ _ ?_|refine hN _ _ ?_);clear hN hE hT)|((first|refine hX ?_|refine hY ?_);clear hX hY)|refine kL ?_|(refine ⟨fun hb=>?_,fun hb=>?_⟩<;>(try simp only [nrm] at hb)<;>(try (first|(exfalso;omega)|contradiction|exact kB hb)))|refine kW cfg_ok ?_|refine kC ?_|refine bdA ?_|refine bd2 ?_|refine bdR ?_|refine bdL ?_)<;>((repeat (first|(with_reducible refine evCut fun N hN hE hT=>?_)|(with_reducible refine evBlk fun N hN hE hT=>?_)));(try with_reducible refine evCnd fun X Y hX hY=>?_);(conv=>whnf)))|(refine And.intro ?_ ?_;rotate_left;(conv=>whnf);rotate_right))
                 all_goals first|rfl|exact List.take_length|exact List.take_of_length_le (by rw [List.drop_zero];omega)|(dsimp only;exact congrArg (Value.int _) (by omega))|exact congrArg (Value.int _) (by omega)|exact row_grow (t:=.chunk)|exact row_grow (t:=.seen)|exact o1.symm|trace_state
               · rw [many_dead hlive2] at i3 i4
                 obtain rfl : os = l:=by rw [← i3];simp
                 obtain ⟨d2,d3⟩:=Rd.mk.inj i4
                 obtain rfl : sp = p:=d2.symm
                 obtain rfl : sb = u:=d3.symm
                 clear i3 i4 d2 d3
                 conv=>whnf
                 repeat' (first|exact trivial|((first|((first|refine hT _ _ ?_|refine hE _ _ _ ?_|refine hN _ _ ?_);clear hN hE hT)|((first|refine hX ?_|refine hY ?_);clear hX hY)|refine kL ?_|(refine ⟨fun hb=>?_,fun hb=>?_⟩<;>(try simp only [nrm] at hb)<;>(try (first|(exfalso;omega)|contradiction|exact kB hb)))|refine kE hmk2 [(1,215)] rfl ?_ (hrd:=⟨rfl,trivial⟩)|refine kF hmk2 [(1,215)] rfl ?_ (hrd:=⟨rfl,trivial⟩)|refine kA heq ?_|refine kD heq ?_|refine kW cfg_ok ?_|refine kC ?_|refine bdA ?_|refine bd2 ?_|refine bdR ?_|refine bdL ?_)<;>((repeat (first|(with_reducible refine evCut fun N hN hE hT=>?_)|(with_reducible refine evBlk fun N hN hE hT=>?_)));(try with_reducible refine evCnd fun X Y hX hY=>?_);(conv=>whnf)))|(refine And.intro ?_ ?_;rotate_left;(conv=>whnf);rotate_right))
                 all_goals (try (exact absurd ⟨by omega,by simpa using hb⟩ hlive2))
                 all_goals first|(rw [W1 (by assumption)];first|done|rfl)|(rw [W2 (by assumption)];first|done|rfl)|(rw [W3 (by assumption)];first|done|rfl)|(rw [W4 (by assumption)];first|done|rfl)|(rw [W5 (by assumption) (by assumption) (by assumption) (by assumption)];first|done|rfl|exact List.take_length)|trace_state
end Go.Proofs.YtaecchphjploaaaGreat
