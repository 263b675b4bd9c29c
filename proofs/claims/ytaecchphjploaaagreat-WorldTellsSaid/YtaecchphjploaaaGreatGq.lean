/- world.Read. -/
import Derived.Test.YtaecchphjploaaaGreatGo
import Derived.Test.YtaecchphjploaaaGreatGp
set_option linter.unusedSimpArgs false
set_option linter.unusedVariables false
set_option maxRecDepth 100000
set_option maxHeartbeats 16000000
namespace Go.Proofs.YtaecchphjploaaaGreat
open Go Go.RowKit Eng
theorem wwide_ev (b : List (El .u8)) (s : Rd) (most : Nat) (hb : okU8 b) (hl : b.length ≤ 1000000000000) (hp : s.pos ≤ b.length) : Ev1 Tryz.prog 86 [.ptr 0 0,.lit (.int .u64 most)] [(0,.box (rdC b s))] (.lit (.int .u64 (numI b most s).1)) [(0,.box (rdC b (numI b most s).2))]:=by
 have hu:=getU_api b s.pos hb hl hp
 obtain ⟨h1,h2⟩:=guN_le hb hp
 cases hs : s.bad with
 | true =>
   rw [numI_bad hs]
   obtain ⟨p,bd⟩:=s
   replace hs : bd = true:=hs
   subst hs
   refine Ev1.of_fin cfg_ok Tryz.func86 rfl (nt:=38) rfl rfl rfl ?_
   conv=>whnf
   repeat' (first|exact trivial|((first|refine kL ?_|(refine ⟨fun hb=>?_,fun hb=>?_⟩<;>(try simp only [nrm] at hb)<;>(try (first|(exfalso;omega)|contradiction|exact kB hb)))|refine kW cfg_ok ?_|refine kC ?_|refine bdA ?_|refine bd2 ?_|refine bdR ?_|refine bdL ?_)<;>(conv=>whnf))|(refine And.intro ?_ ?_;rotate_left;(conv=>whnf);rotate_right))
 | false =>
   rw [numI_gu hs]
   generalize guN b s.pos = G at *
   obtain ⟨n,f,e⟩:=G
   dsimp only at *
   by_cases c1 : e = 0 ∧ n ≤ most
   · rw [if_pos c1]
     obtain ⟨rfl,c2⟩:=c1
     dsimp only
     refine Ev1.of_fin cfg_ok Tryz.func86 rfl (nt:=38) rfl rfl rfl ?_
     conv=>whnf
     repeat' (first|exact trivial|((first|refine kL ?_|(refine ⟨fun hb=>?_,fun hb=>?_⟩<;>(try simp only [nrm] at hb)<;>(try (first|(exfalso;omega)|contradiction|exact kB hb)))|refine kA hu ?_|refine kD hu ?_|refine kW cfg_ok ?_|refine kC ?_|refine bdA ?_|refine bd2 ?_|refine bdR ?_|refine bdL ?_)<;>(conv=>whnf))|(refine And.intro ?_ ?_;rotate_left;(conv=>whnf);rotate_right))
     all_goals (try exact congrArg Value.bool hs)
   · rw [if_neg c1]
     dsimp only
     refine Ev1.of_fin cfg_ok Tryz.func86 rfl (nt:=38) rfl rfl rfl ?_
     conv=>whnf
     repeat' (first|exact trivial|((first|refine kL ?_|(refine ⟨fun hb=>?_,fun hb=>?_⟩<;>(try simp only [nrm] at hb)<;>(try (first|(exfalso;omega)|contradiction|exact kB hb)))|refine kA hu ?_|refine kD hu ?_|refine kW cfg_ok ?_|refine kC ?_|refine bdA ?_|refine bd2 ?_|refine bdR ?_|refine bdL ?_)<;>(conv=>whnf))|(refine And.intro ?_ ?_;rotate_left;(conv=>whnf);rotate_right))
     all_goals (try exact congrArg Value.bool hs)
     all_goals omega
theorem wwide0_ev (b : List (El .u8)) (most : Nat) (hb : okU8 b) (hl : b.length ≤ 1000000000000) : Ev1 Tryz.prog 86 [.ptr 0 0,.lit (.int .u64 most)] [(0,.box [.vec .u8 b,i64 0,.ff])] (.lit (.int .u64 (numI b most ⟨0,false⟩).1)) [(0,.box (rdC b (numI b most ⟨0,false⟩).2))]:=by
 have hu:=getU_api b 0 hb hl (Nat.zero_le _)
 obtain ⟨h1,h2⟩:=guN_le hb (pos:=0) (Nat.zero_le _)
 rw [numI_gu rfl]
 change Api _ _ [.vec .u8 b,i64 0] _ at hu
 dsimp only at *
 generalize guN b 0 = G at *
 obtain ⟨n,f,e⟩:=G
 dsimp only at *
 by_cases c1 : e = 0 ∧ n ≤ most
 · rw [if_pos c1]
   obtain ⟨rfl,c2⟩:=c1
   dsimp only
   refine Ev1.of_fin cfg_ok Tryz.func86 rfl (nt:=38) rfl rfl rfl ?_
   conv=>whnf
   repeat' (first|exact trivial|((first|refine kL ?_|(refine ⟨fun hb=>?_,fun hb=>?_⟩<;>(try simp only [nrm] at hb)<;>(try (first|(exfalso;omega)|contradiction|exact kB hb)))|refine kA hu ?_|refine kD hu ?_|refine kW cfg_ok ?_|refine kC ?_|refine bdA ?_|refine bd2 ?_|refine bdR ?_|refine bdL ?_)<;>(conv=>whnf))|(refine And.intro ?_ ?_;rotate_left;(conv=>whnf);rotate_right))
 · rw [if_neg c1]
   dsimp only
   refine Ev1.of_fin cfg_ok Tryz.func86 rfl (nt:=38) rfl rfl rfl ?_
   conv=>whnf
   repeat' (first|exact trivial|((first|refine kL ?_|(refine ⟨fun hb=>?_,fun hb=>?_⟩<;>(try simp only [nrm] at hb)<;>(try (first|(exfalso;omega)|contradiction|exact kB hb)))|refine kA hu ?_|refine kD hu ?_|refine kW cfg_ok ?_|refine kC ?_|refine bdA ?_|refine bd2 ?_|refine bdR ?_|refine bdL ?_)<;>(conv=>whnf))|(refine And.intro ?_ ?_;rotate_left;(conv=>whnf);rotate_right))
   all_goals first|rfl|omega
theorem wnum_ev (b : List (El .u8)) (s : Rd) (most : Nat) (hb : okU8 b) (hl : b.length ≤ 1000000000000) (hp : s.pos ≤ b.length) (hm : most ≤ 2000000000000) : Ev1 Tryz.prog 85 [.ptr 0 0,i64 most] [(0,.box (rdC b s))] (i64 (numI b most s).1) [(0,.box (rdC b (numI b most s).2))]:=by
 have hw:=wwide_ev b s most hb hl hp
 obtain ⟨l1,l2⟩:=numI_le (b:=b) (most:=most) (s:=s)
 generalize numI b most s = X at *
 refine Ev1.of_fin cfg_ok Tryz.func85 rfl (nt:=8) rfl rfl rfl ?_
 conv=>whnf
 repeat' (first|exact trivial|((first|refine kL ?_|(refine ⟨fun hb=>?_,fun hb=>?_⟩<;>(try simp only [nrm] at hb)<;>(try (first|(exfalso;omega)|contradiction|exact kB hb)))|refine kE hw [(0,0)] rfl ?_ (hrd:=⟨rfl,trivial⟩)|refine kF hw [(0,0)] rfl ?_ (hrd:=⟨rfl,trivial⟩)|refine kW cfg_ok ?_|refine kC ?_|refine bdA ?_|refine bd2 ?_|refine bdR ?_|refine bdL ?_)<;>(conv=>whnf))|(refine And.intro ?_ ?_;rotate_left;(conv=>whnf);rotate_right))
theorem wnum0_ev (b : List (El .u8)) (most : Nat) (hb : okU8 b) (hl : b.length ≤ 1000000000000) (hm : most ≤ 2000000000000) : Ev1 Tryz.prog 85 [.ptr 0 0,i64 most] [(0,.box [.vec .u8 b,i64 0,.ff])] (i64 (numI b most ⟨0,false⟩).1) [(0,.box (rdC b (numI b most ⟨0,false⟩).2))]:=by
 have hw:=wwide0_ev b most hb hl
 obtain ⟨l1,l2⟩:=numI_le (b:=b) (most:=most) (s:=⟨0,false⟩)
 generalize numI b most ⟨0,false⟩ = X at *
 refine Ev1.of_fin cfg_ok Tryz.func85 rfl (nt:=8) rfl rfl rfl ?_
 conv=>whnf
 repeat' (first|exact trivial|((first|refine kL ?_|(refine ⟨fun hb=>?_,fun hb=>?_⟩<;>(try simp only [nrm] at hb)<;>(try (first|(exfalso;omega)|contradiction|exact kB hb)))|refine kE hw [(0,0)] rfl ?_ (hrd:=⟨rfl,trivial⟩)|refine kF hw [(0,0)] rfl ?_ (hrd:=⟨rfl,trivial⟩)|refine kW cfg_ok ?_|refine kC ?_|refine bdA ?_|refine bd2 ?_|refine bdR ?_|refine bdL ?_)<;>(conv=>whnf))|(refine And.intro ?_ ?_;rotate_left;(conv=>whnf);rotate_right))
theorem wslotsR_ev (b : List (El .u8)) (s : Rd) (h8 : okU8 b) (hl : b.length ≤ 1000000000000) (hp : s.pos ≤ b.length) : Ev1 Tryz.prog 155 [.ptr 0 0] [(0,.box (rdC b s))] (.vec .slot (allR (slotR b) 8 s).1) [(0,.box (rdC b (allR (slotR b) 8 s).2))]:=by
 refine Ev1.of_fin cfg_ok Tryz.func155 rfl (nt:=18) rfl rfl rfl ?_
 conv=>whnf
 refine Runs.loopS cfg_ok (σ:=List (El .slot) × Nat × Bool) [0,3,5] (fun (l,t,u)=>[.ptr 0 0,.own .slot 200033 0 l.length none,i64 l.length]) (fun (l,t,u)=>[(0,.box [.vec .u8 b,i64 t,bol u]),(200033,.row .slot l)])
   (fun (l,t,u)=>l.length ≤ 8 ∧ t ≤ b.length ∧ (l ++ (allR (slotR b) (8 - l.length) ⟨t,u⟩).1,(allR (slotR b) (8 - l.length) ⟨t,u⟩).2) = allR (slotR b) 8 s) (fun (l,t,u)=>8 - l.length) ([],s.pos,s.bad) ⟨by simp,hp,rfl⟩ ?_ ?_
 · conv=>whnf
   repeat' (first|exact trivial|((first|refine kL ?_|(refine ⟨fun hb=>?_,fun hb=>?_⟩<;>(try simp only [nrm] at hb)<;>(try (first|(exfalso;omega)|contradiction|exact kB hb)))|refine kW cfg_ok ?_|refine kC ?_|refine bdA ?_|refine bd2 ?_|refine bdR ?_|refine bdL ?_)<;>(conv=>whnf))|(refine And.intro ?_ ?_;rotate_left;(conv=>whnf);rotate_right))
   all_goals rfl
 · rintro ⟨l,t,u⟩ ⟨m1,m2,m3⟩
   try dsimp only at m1 m2 m3
   by_cases hl8 : l.length < 8
   · have g1:=wnum_ev b ⟨t,u⟩ 255 h8 hl m2 (by omega)
     have g2:=wnum_ev b (numI b 255 ⟨t,u⟩).2 1000 h8 hl (numI_pos h8 m2) (by decide)
     have g3 : (slotR b ⟨t,u⟩).2.pos ≤ b.length:=slotR_pos h8 m2
     have g4 : allR (slotR b) (8 - l.length) ⟨t,u⟩ = ((slotR b ⟨t,u⟩).1 :: (allR (slotR b) (8 - (l.length + 1)) (slotR b ⟨t,u⟩).2).1,(allR (slotR b) (8 - (l.length + 1)) (slotR b ⟨t,u⟩).2).2):=by
       rw [show 8 - l.length = (8 - (l.length + 1)) + 1 by omega];rfl
     have g5 : slotR b ⟨t,u⟩ = (⟨(numI b 255 ⟨t,u⟩).1,(numI b 1000 (numI b 255 ⟨t,u⟩).2).1⟩,(numI b 1000 (numI b 255 ⟨t,u⟩).2).2):=rfl
     obtain ⟨q1,q2⟩:=numI_le (b:=b) (most:=255) (s:=⟨t,u⟩)
     rw [g4] at m3
     rw [g5] at m3 g3
     clear g4 g5
     generalize numI b 255 ⟨t,u⟩ = C at *
     generalize numI b 1000 C.2 = E at *
     obtain ⟨c,cp,cb⟩:=C
     obtain ⟨e,ep,eb⟩:=E
     try dsimp only at *
     change Ev1 _ _ _ [(0,.box [.vec .u8 b,i64 t,bol u])] _ [(0,.box [.vec .u8 b,i64 cp,bol cb])] at g1
     change Ev1 _ _ _ [(0,.box [.vec .u8 b,i64 cp,bol cb])] _ [(0,.box [.vec .u8 b,i64 ep,bol eb])] at g2
     conv=>whnf
     repeat' (first|exact trivial|((first|refine kL ?_|(refine ⟨fun hb=>?_,fun hb=>?_⟩<;>(try simp only [nrm] at hb)<;>(try (first|(exfalso;omega)|contradiction|exact kB hb)))|refine kE g1 [(0,0)] rfl ?_ (hrd:=⟨rfl,trivial⟩)|refine kF g1 [(0,0)] rfl ?_ (hrd:=⟨rfl,trivial⟩)|refine kE g2 [(0,0)] rfl ?_ (hrd:=⟨rfl,trivial⟩)|refine kF g2 [(0,0)] rfl ?_ (hrd:=⟨rfl,trivial⟩)|refine kW cfg_ok ?_|refine kC ?_|refine bdA ?_|refine bd2 ?_|refine bdR ?_|refine bdL ?_)<;>(conv=>whnf))|(refine And.intro ?_ ?_;rotate_left;(conv=>whnf);rotate_right))
     refine .to (l ++ [⟨c,e⟩],ep,eb) ⟨by rw [List.length_append,List.length_singleton];omega,g3,by rw [List.append_assoc,List.length_append,List.length_singleton];exact m3⟩ (by first|(rw [List.length_append,List.length_singleton];omega)|(dsimp only;rw [List.length_append,List.length_singleton];omega)) ?_
     conv=>whnf
     repeat' (first|exact trivial|((first|refine kL ?_|(refine ⟨fun hb=>?_,fun hb=>?_⟩<;>(try simp only [nrm] at hb)<;>(try (first|(exfalso;omega)|contradiction|exact kB hb)))|refine kW cfg_ok ?_|refine kC ?_|refine bdA ?_|refine bd2 ?_|refine bdR ?_|refine bdL ?_)<;>(conv=>whnf))|(refine And.intro ?_ ?_;rotate_left;(conv=>whnf);rotate_right))
     all_goals first|exact row_grow (t:=.slot)|exact congrArg (Value.int _) (by simp)|(simp;done)
   · have hl8 : l.length = 8:=by omega
     rw [hl8] at m3
     have m4 : (l,(⟨t,u⟩ : Rd)) = allR (slotR b) 8 s:=by rw [← m3];simp [allR]
     rw [← m4]
     clear m3 m4
     conv=>whnf
     repeat' (first|exact trivial|((first|refine kL ?_|(refine ⟨fun hb=>?_,fun hb=>?_⟩<;>(try simp only [nrm] at hb)<;>(try (first|(exfalso;omega)|contradiction|exact kB hb)))|refine kW cfg_ok ?_|refine kC ?_|refine bdA ?_|refine bd2 ?_|refine bdR ?_|refine bdL ?_)<;>(conv=>whnf))|(refine And.intro ?_ ?_;rotate_left;(conv=>whnf);rotate_right))
     all_goals exact List.take_length
theorem readC_err {b : List Int} (h : ¬ (readC b).2 = 0) : (readC b).1 = emptyK:=by
 unfold readC at h ⊢
 split
 · rfl
 · rename_i c1
   rw [if_neg c1] at h
   split
   · rfl
   · rename_i c2
     rw [if_neg c2] at h
     exact absurd rfl h
theorem chunkBR_bad {b : List Int} {most : Nat} {s : Rd} (h : s.bad = true) : chunkBR b most s = (emptyK,s):=by
 have e : blobR b most s = ([],⟨s.pos,true⟩):=by
   unfold blobR
   rw [if_pos (by rw [numR_bad h];exact h)]
 unfold chunkBR
 rw [e,if_pos (.inl rfl),← h]
theorem chunkBR_eq {b : List Int} {s : Rd} (hs : s.bad = false) (h8 : okU8 b) (hp : s.pos ≤ b.length) : chunkBR b 5000 s = ((readC (gbN b s.pos 5000).1).1,if (gbN b s.pos 5000).2.2 = 0 ∧ (readC (gbN b s.pos 5000).1).2 = 0 then ⟨(gbN b s.pos 5000).2.1,false⟩ else ⟨s.pos,true⟩):=by
 have h4:=(gbN_ok h8 (most:=5000) hp).2.2.2
 have hB:=blobR_gb (b:=b) (most:=5000) hs
 unfold chunkBR
 generalize gbN b s.pos 5000 = G at *
 obtain ⟨B,f,e⟩:=G
 dsimp only at *
 by_cases c1 : e = 0
 · rw [if_pos c1] at hB
   rw [hB]
   dsimp only
   by_cases c2 : (readC B).2 = 0
   · rw [if_neg (by simp [c2]),if_pos ⟨c1,c2⟩]
   · rw [if_pos (.inr c2),if_neg fun h=>c2 h.2,readC_err c2]
 · rw [if_neg c1] at hB
   have n2 : ¬ (e = 0 ∧ (readC B).2 = 0):=fun h=>c1 h.1
   rw [hB,if_neg n2,h4 c1]
   dsimp only
   rw [if_pos (.inl rfl),readC_nil]
theorem wchunkR_ev (b : List (El .u8)) (s : Rd) (h8 : okU8 b) (hl : b.length ≤ 1000000000000) (hp : s.pos ≤ b.length) : Ev1 Tryz.prog 87 [.ptr 0 0] [(0,.box (rdC b s))] (chunkV (chunkBR b 5000 s).1) [(0,.box (rdC b (chunkBR b 5000 s).2))]:=by
 cases hs : s.bad with
 | true =>
   rw [chunkBR_bad hs]
   obtain ⟨p,bd⟩:=s
   replace hs : bd = true:=hs
   subst hs
   refine Ev1.of_fin cfg_ok Tryz.func87 rfl (nt:=49) rfl rfl rfl ?_
   conv=>whnf
   repeat' (first|exact trivial|((first|refine kL ?_|(refine ⟨fun hb=>?_,fun hb=>?_⟩<;>(try simp only [nrm] at hb)<;>(try (first|(exfalso;omega)|contradiction|exact kB hb)))|refine kW cfg_ok ?_|refine kC ?_|refine bdA ?_|refine bd2 ?_|refine bdR ?_|refine bdL ?_)<;>(conv=>whnf))|(refine And.intro ?_ ?_;rotate_left;(conv=>whnf);rotate_right))
 | false =>
   rw [chunkBR_eq hs h8 hp]
   have hg:=getB_api b s.pos 5000 h8 hl hp (by omega)
   obtain ⟨o1,o2,o3,_⟩:=gbN_ok h8 (most:=5000) hp
   obtain ⟨p,bd⟩:=s
   replace hs : bd = false:=hs
   subst hs
   dsimp only at *
   generalize gbN b p 5000 = G at *
   obtain ⟨B,f,e⟩:=G
   dsimp only at *
   have hc:=cread_api B o1 (by omega)
   generalize readC B = R at *
   obtain ⟨c,ce⟩:=R
   dsimp only at *
   by_cases hf : e = 0 ∧ ce = 0
   · rw [if_pos hf]
     obtain ⟨rfl,rfl⟩:=hf
     refine Ev1.of_fin cfg_ok Tryz.func87 rfl (nt:=49) rfl rfl rfl ?_
     ((repeat (first|(with_reducible refine evCut fun N hN hE hT=>?_)|(with_reducible refine evBlk fun N hN hE hT=>?_)));(try with_reducible refine evCnd fun X Y hX hY=>?_);(conv=>whnf))
     repeat' (first|exact trivial|((first|((first|refine hT _ _ ?_|refine hE _ _ _ ?_|refine hN _ _ ?_);clear hN hE hT)|((first|refine hX ?_|refine hY ?_);clear hX hY)|refine kL ?_|(refine ⟨fun hb=>?_,fun hb=>?_⟩<;>(try simp only [nrm] at hb)<;>(try (first|(exfalso;omega)|contradiction|exact kB hb)))|refine kA hg ?_|refine kD hg ?_|refine kA hc ?_|refine kD hc ?_|refine kW cfg_ok ?_|refine kC ?_|refine bdA ?_|refine bd2 ?_|refine bdR ?_|refine bdL ?_)<;>((repeat (first|(with_reducible refine evCut fun N hN hE hT=>?_)|(with_reducible refine evBlk fun N hN hE hT=>?_)));(try with_reducible refine evCnd fun X Y hX hY=>?_);(conv=>whnf)))|(refine And.intro ?_ ?_;rotate_left;(conv=>whnf);rotate_right))
     all_goals first|rfl|exact congrArg Value.bool (by simp)
   · rw [if_neg hf]
     refine Ev1.of_fin cfg_ok Tryz.func87 rfl (nt:=49) rfl rfl rfl ?_
     ((repeat (first|(with_reducible refine evCut fun N hN hE hT=>?_)|(with_reducible refine evBlk fun N hN hE hT=>?_)));(try with_reducible refine evCnd fun X Y hX hY=>?_);(conv=>whnf))
     repeat' (first|exact trivial|((first|((first|refine hT _ _ ?_|refine hE _ _ _ ?_|refine hN _ _ ?_);clear hN hE hT)|((first|refine hX ?_|refine hY ?_);clear hX hY)|refine kL ?_|(refine ⟨fun hb=>?_,fun hb=>?_⟩<;>(try simp only [nrm] at hb)<;>(try (first|(exfalso;omega)|contradiction|exact kB hb)))|refine kA hg ?_|refine kD hg ?_|refine kA hc ?_|refine kD hc ?_|refine kW cfg_ok ?_|refine kC ?_|refine bdA ?_|refine bd2 ?_|refine bdR ?_|refine bdL ?_)<;>((repeat (first|(with_reducible refine evCut fun N hN hE hT=>?_)|(with_reducible refine evBlk fun N hN hE hT=>?_)));(try with_reducible refine evCnd fun X Y hX hY=>?_);(conv=>whnf)))|(refine And.intro ?_ ?_;rotate_left;(conv=>whnf);rotate_right))
     all_goals first|exact congrArg Value.bool (by simpa using hb)|exact absurd ⟨‹e = 0›,hb⟩ hf
theorem wplayerR_ev (b : List (El .u8)) (s : Rd) (h8 : okU8 b) (hl : b.length ≤ 1000000000000) (hp : s.pos ≤ b.length) : Ev1 Tryz.prog 88 [.ptr 0 0] [(0,.box (rdC b s))] (playerV (plR b s).1) [(0,.box (rdC b (plR b s).2))]:=by
 have g1:=wnum_ev b s 1073741824 h8 hl hp (by omega)
 have k1 : (numI b 1073741824 s).2.pos ≤ b.length:=numI_pos h8 hp
 have g2:=wnum_ev b (numI b 1073741824 s).2 1000 h8 hl k1 (by omega)
 have k2 : (numI b 1000 (numI b 1073741824 s).2).2.pos ≤ b.length:=numI_pos h8 k1
 have g3:=wnum_ev b (numI b 1000 (numI b 1073741824 s).2).2 1000 h8 hl k2 (by omega)
 have k3 : (numI b 1000 (numI b 1000 (numI b 1073741824 s).2).2).2.pos ≤ b.length:=numI_pos h8 k2
 have e : plR b s = (⟨(numI b 1073741824 s).1,(numI b 1000 (numI b 1073741824 s).2).1,(numI b 1000 (numI b 1000 (numI b 1073741824 s).2).2).1,(allR (slotR b) 8 (numI b 1000 (numI b 1000 (numI b 1073741824 s).2).2).2).1,(numI b 1073741825 (allR (slotR b) 8 (numI b 1000 (numI b 1000 (numI b 1073741824 s).2).2).2).2).1 - 1,(offR b (numI b 1073741825 (allR (slotR b) 8 (numI b 1000 (numI b 1000 (numI b 1073741824 s).2).2).2).2).1 (numI b 1 (numI b 1073741825 (allR (slotR b) 8 (numI b 1000 (numI b 1000 (numI b 1073741824 s).2).2).2).2).2).2).1,decide ((numI b 1 (numI b 1073741825 (allR (slotR b) 8 (numI b 1000 (numI b 1000 (numI b 1073741824 s).2).2).2).2).2).1 = 1)⟩,(offR b (numI b 1073741825 (allR (slotR b) 8 (numI b 1000 (numI b 1000 (numI b 1073741824 s).2).2).2).2).1 (numI b 1 (numI b 1073741825 (allR (slotR b) 8 (numI b 1000 (numI b 1000 (numI b 1073741824 s).2).2).2).2).2).2).2):=rfl
 rw [e]
 clear e
 generalize numI b 1073741824 s = I at *
 obtain ⟨id,ip,ib⟩:=I
 dsimp only at *
 generalize numI b 1000 ⟨ip,ib⟩ = X at *
 obtain ⟨x,xp,xb⟩:=X
 dsimp only at *
 generalize numI b 1000 ⟨xp,xb⟩ = Y at *
 obtain ⟨y,yp,yb⟩:=Y
 dsimp only at *
 have g4:=wslotsR_ev b ⟨yp,yb⟩ h8 hl k3
 have k4 : (allR (slotR b) 8 ⟨yp,yb⟩).2.pos ≤ b.length:=all_pos (fun s hs=>slotR_pos h8 hs) 8 _ k3
 generalize allR (slotR b) 8 ⟨yp,yb⟩ = B at *
 obtain ⟨bag,bp,bb⟩:=B
 dsimp only at *
 have g5:=wnum_ev b ⟨bp,bb⟩ 1073741825 h8 hl k4 (by omega)
 have k5 : (numI b 1073741825 ⟨bp,bb⟩).2.pos ≤ b.length:=numI_pos h8 k4
 have l5:=numI_le (b:=b) (most:=1073741825) (s:=⟨bp,bb⟩)
 generalize numI b 1073741825 ⟨bp,bb⟩ = W at *
 obtain ⟨w,wp,wb⟩:=W
 dsimp only at *
 have g6:=wnum_ev b ⟨wp,wb⟩ 1 h8 hl k5 (by omega)
 have k6 : (numI b 1 ⟨wp,wb⟩).2.pos ≤ b.length:=numI_pos h8 k5
 generalize numI b 1 ⟨wp,wb⟩ = A at *
 obtain ⟨ag,ap,ab⟩:=A
 dsimp only at *
 have g7:=wslotsR_ev b ⟨ap,ab⟩ h8 hl k6
 obtain ⟨sp,sb⟩:=s
 change Ev1 _ _ _ [(0,.box [.vec .u8 b,i64 sp,bol sb])] _ [(0,.box [.vec .u8 b,i64 ip,bol ib])] at g1
 change Ev1 _ _ _ [(0,.box [.vec .u8 b,i64 ip,bol ib])] _ [(0,.box [.vec .u8 b,i64 xp,bol xb])] at g2
 change Ev1 _ _ _ [(0,.box [.vec .u8 b,i64 xp,bol xb])] _ [(0,.box [.vec .u8 b,i64 yp,bol yb])] at g3
 change Ev1 _ _ _ [(0,.box [.vec .u8 b,i64 yp,bol yb])] _ [(0,.box [.vec .u8 b,i64 bp,bol bb])] at g4
 change Ev1 _ _ _ [(0,.box [.vec .u8 b,i64 bp,bol bb])] _ [(0,.box [.vec .u8 b,i64 wp,bol wb])] at g5
 change Ev1 _ _ _ [(0,.box [.vec .u8 b,i64 wp,bol wb])] _ [(0,.box [.vec .u8 b,i64 ap,bol ab])] at g6
 have hoff : ∃ off : List (El .slot),∃ op : Nat,∃ ob : Bool,offR b w ⟨ap,ab⟩ = (off,⟨op,ob⟩) ∧ ((0 ≤ w - 1 ∧ Ev1 Tryz.prog 155 [.ptr 0 0] [(0,.box [.vec .u8 b,i64 ap,bol ab])] (.vec .slot off) [(0,.box [.vec .u8 b,i64 op,bol ob])]) ∨ (w - 1 < 0 ∧ off = [] ∧ ap = op ∧ ab = ob)):=by
   unfold offR
   by_cases hw : 0 ≤ w - 1
   · rw [if_pos hw]
     exact ⟨_,_,_,rfl,.inl ⟨hw,g7⟩⟩
   · rw [if_neg hw]
     exact ⟨_,_,_,rfl,.inr ⟨by omega,rfl,rfl,rfl⟩⟩
 obtain ⟨off,op,ob,ho,hoff⟩:=hoff
 rw [ho]
 dsimp only
 clear ho g7
 refine Ev1.of_fin cfg_ok Tryz.func88 rfl (nt:=41) rfl rfl rfl ?_
 ((repeat (first|(with_reducible refine evCut fun N hN hE hT=>?_)|(with_reducible refine evBlk fun N hN hE hT=>?_)));(try with_reducible refine evCnd fun X Y hX hY=>?_);(conv=>whnf))
 repeat' (first|exact trivial|((first|((first|refine hT _ _ ?_|refine hE _ _ _ ?_|refine hN _ _ ?_);clear hN hE hT)|((first|refine hX ?_|refine hY ?_);clear hX hY)|refine kL ?_|(refine ⟨fun hb=>?_,fun hb=>?_⟩<;>(try simp only [nrm] at hb)<;>(try (first|(exfalso;omega)|contradiction|exact kB hb)))|refine kW cfg_ok ?_|refine kC ?_|refine bdA ?_|refine bd2 ?_|refine bdR ?_|refine bdL ?_)<;>((repeat (first|(with_reducible refine evCut fun N hN hE hT=>?_)|(with_reducible refine evBlk fun N hN hE hT=>?_)));(try with_reducible refine evCnd fun X Y hX hY=>?_);(conv=>whnf)))|(refine And.intro ?_ ?_;rotate_left;(conv=>whnf);rotate_right))
 refine Runs.loopS cfg_ok (σ:=Nat × (Int × Int × Int) × Nat × Bool) [0,2,3,12,13] (fun (k,(c0,c1,c2),p,u)=>[.ptr 0 0,.ptr 200004 0,.ptr 200006 0,.agg [.ptr 200006 0,i64 1073741824,.ptr 200006 1,i64 1000,.ptr 200006 2,i64 1000],i64 k]) (fun (k,(c0,c1,c2),p,u)=>[(0,.box [.vec .u8 b,i64 p,bol u]),(200004,.box (playerC zeroP)),(200006,.box [i64 c0,i64 c1,i64 c2,.lit (.slice none 0 0),i64 0,.lit (.slice none 0 0),.ff])])
   (fun s=>s = (0,(0,0,0),sp,sb) ∨ s = (1,(id,0,0),ip,ib) ∨ s = (2,(id,x,0),xp,xb) ∨ s = (3,(id,x,y),yp,yb)) (fun (k,_,_,_)=>3 - k) (0,(0,0,0),sp,sb) (.inl rfl) ?_ ?_
 · conv=>whnf
   repeat' (first|exact trivial|((first|((first|refine hT _ _ ?_|refine hE _ _ _ ?_|refine hN _ _ ?_);clear hN hE hT)|((first|refine hX ?_|refine hY ?_);clear hX hY)|refine kL ?_|(refine ⟨fun hb=>?_,fun hb=>?_⟩<;>(try simp only [nrm] at hb)<;>(try (first|(exfalso;omega)|contradiction|exact kB hb)))|refine kW cfg_ok ?_|refine kC ?_|refine bdA ?_|refine bd2 ?_|refine bdR ?_|refine bdL ?_)<;>((repeat (first|(with_reducible refine evCut fun N hN hE hT=>?_)|(with_reducible refine evBlk fun N hN hE hT=>?_)));(try with_reducible refine evCnd fun X Y hX hY=>?_);(conv=>whnf)))|(refine And.intro ?_ ?_;rotate_left;(conv=>whnf);rotate_right))
   all_goals trace_state
 · rintro s (h|h|h|h)
   · rw [h]
     conv=>whnf
     repeat' (first|exact trivial|((first|((first|refine hT _ _ ?_|refine hE _ _ _ ?_|refine hN _ _ ?_);clear hN hE hT)|((first|refine hX ?_|refine hY ?_);clear hX hY)|refine kL ?_|(refine ⟨fun hb=>?_,fun hb=>?_⟩<;>(try simp only [nrm] at hb)<;>(try (first|(exfalso;omega)|contradiction|exact kB hb)))|refine kE g1 [(0,0)] rfl ?_ (hrd:=⟨rfl,trivial⟩)|refine kF g1 [(0,0)] rfl ?_ (hrd:=⟨rfl,trivial⟩)|refine kW cfg_ok ?_|refine kC ?_|refine bdA ?_|refine bd2 ?_|refine bdR ?_|refine bdL ?_)<;>((repeat (first|(with_reducible refine evCut fun N hN hE hT=>?_)|(with_reducible refine evBlk fun N hN hE hT=>?_)));(try with_reducible refine evCnd fun X Y hX hY=>?_);(conv=>whnf)))|(refine And.intro ?_ ?_;rotate_left;(conv=>whnf);rotate_right))
     refine .to (1,(id,0,0),ip,ib) (.inr (.inl rfl)) (by dsimp only;omega) ?_
     conv=>whnf
     repeat' (first|exact trivial|((first|((first|refine hT _ _ ?_|refine hE _ _ _ ?_|refine hN _ _ ?_);clear hN hE hT)|((first|refine hX ?_|refine hY ?_);clear hX hY)|refine kL ?_|(refine ⟨fun hb=>?_,fun hb=>?_⟩<;>(try simp only [nrm] at hb)<;>(try (first|(exfalso;omega)|contradiction|exact kB hb)))|refine kW cfg_ok ?_|refine kC ?_|refine bdA ?_|refine bd2 ?_|refine bdR ?_|refine bdL ?_)<;>((repeat (first|(with_reducible refine evCut fun N hN hE hT=>?_)|(with_reducible refine evBlk fun N hN hE hT=>?_)));(try with_reducible refine evCnd fun X Y hX hY=>?_);(conv=>whnf)))|(refine And.intro ?_ ?_;rotate_left;(conv=>whnf);rotate_right))
     all_goals trace_state
   · rw [h]
     conv=>whnf
     repeat' (first|exact trivial|((first|((first|refine hT _ _ ?_|refine hE _ _ _ ?_|refine hN _ _ ?_);clear hN hE hT)|((first|refine hX ?_|refine hY ?_);clear hX hY)|refine kL ?_|(refine ⟨fun hb=>?_,fun hb=>?_⟩<;>(try simp only [nrm] at hb)<;>(try (first|(exfalso;omega)|contradiction|exact kB hb)))|refine kE g2 [(0,0)] rfl ?_ (hrd:=⟨rfl,trivial⟩)|refine kF g2 [(0,0)] rfl ?_ (hrd:=⟨rfl,trivial⟩)|refine kW cfg_ok ?_|refine kC ?_|refine bdA ?_|refine bd2 ?_|refine bdR ?_|refine bdL ?_)<;>((repeat (first|(with_reducible refine evCut fun N hN hE hT=>?_)|(with_reducible refine evBlk fun N hN hE hT=>?_)));(try with_reducible refine evCnd fun X Y hX hY=>?_);(conv=>whnf)))|(refine And.intro ?_ ?_;rotate_left;(conv=>whnf);rotate_right))
     refine .to (2,(id,x,0),xp,xb) (.inr (.inr (.inl rfl))) (by dsimp only;omega) ?_
     conv=>whnf
     repeat' (first|exact trivial|((first|((first|refine hT _ _ ?_|refine hE _ _ _ ?_|refine hN _ _ ?_);clear hN hE hT)|((first|refine hX ?_|refine hY ?_);clear hX hY)|refine kL ?_|(refine ⟨fun hb=>?_,fun hb=>?_⟩<;>(try simp only [nrm] at hb)<;>(try (first|(exfalso;omega)|contradiction|exact kB hb)))|refine kW cfg_ok ?_|refine kC ?_|refine bdA ?_|refine bd2 ?_|refine bdR ?_|refine bdL ?_)<;>((repeat (first|(with_reducible refine evCut fun N hN hE hT=>?_)|(with_reducible refine evBlk fun N hN hE hT=>?_)));(try with_reducible refine evCnd fun X Y hX hY=>?_);(conv=>whnf)))|(refine And.intro ?_ ?_;rotate_left;(conv=>whnf);rotate_right))
     all_goals trace_state
   · rw [h]
     conv=>whnf
     repeat' (first|exact trivial|((first|((first|refine hT _ _ ?_|refine hE _ _ _ ?_|refine hN _ _ ?_);clear hN hE hT)|((first|refine hX ?_|refine hY ?_);clear hX hY)|refine kL ?_|(refine ⟨fun hb=>?_,fun hb=>?_⟩<;>(try simp only [nrm] at hb)<;>(try (first|(exfalso;omega)|contradiction|exact kB hb)))|refine kE g3 [(0,0)] rfl ?_ (hrd:=⟨rfl,trivial⟩)|refine kF g3 [(0,0)] rfl ?_ (hrd:=⟨rfl,trivial⟩)|refine kW cfg_ok ?_|refine kC ?_|refine bdA ?_|refine bd2 ?_|refine bdR ?_|refine bdL ?_)<;>((repeat (first|(with_reducible refine evCut fun N hN hE hT=>?_)|(with_reducible refine evBlk fun N hN hE hT=>?_)));(try with_reducible refine evCnd fun X Y hX hY=>?_);(conv=>whnf)))|(refine And.intro ?_ ?_;rotate_left;(conv=>whnf);rotate_right))
     refine .to (3,(id,x,y),yp,yb) (.inr (.inr (.inr rfl))) (by dsimp only;omega) ?_
     conv=>whnf
     repeat' (first|exact trivial|((first|((first|refine hT _ _ ?_|refine hE _ _ _ ?_|refine hN _ _ ?_);clear hN hE hT)|((first|refine hX ?_|refine hY ?_);clear hX hY)|refine kL ?_|(refine ⟨fun hb=>?_,fun hb=>?_⟩<;>(try simp only [nrm] at hb)<;>(try (first|(exfalso;omega)|contradiction|exact kB hb)))|refine kW cfg_ok ?_|refine kC ?_|refine bdA ?_|refine bd2 ?_|refine bdR ?_|refine bdL ?_)<;>((repeat (first|(with_reducible refine evCut fun N hN hE hT=>?_)|(with_reducible refine evBlk fun N hN hE hT=>?_)));(try with_reducible refine evCnd fun X Y hX hY=>?_);(conv=>whnf)))|(refine And.intro ?_ ?_;rotate_left;(conv=>whnf);rotate_right))
     all_goals trace_state
   · rw [h]
     clear h g1 g2 g3
     rcases hoff with ⟨hw,g8⟩|⟨hw,o1,o2,o3⟩
     · conv=>whnf
       repeat' (first|exact trivial|((first|((first|refine hT _ _ ?_|refine hE _ _ _ ?_|refine hN _ _ ?_);clear hN hE hT)|((first|refine hX ?_|refine hY ?_);clear hX hY)|refine kL ?_|(refine ⟨fun hb=>?_,fun hb=>?_⟩<;>(try simp only [nrm] at hb)<;>(try (first|(exfalso;omega)|contradiction|exact kB hb)))|refine kE g4 [(0,0)] rfl ?_ (hrd:=⟨rfl,trivial⟩)|refine kF g4 [(0,0)] rfl ?_ (hrd:=⟨rfl,trivial⟩)|refine kE g5 [(0,0)] rfl ?_ (hrd:=⟨rfl,trivial⟩)|refine kF g5 [(0,0)] rfl ?_ (hrd:=⟨rfl,trivial⟩)|refine kE g6 [(0,0)] rfl ?_ (hrd:=⟨rfl,trivial⟩)|refine kF g6 [(0,0)] rfl ?_ (hrd:=⟨rfl,trivial⟩)|refine kE g8 [(0,0)] rfl ?_ (hrd:=⟨rfl,trivial⟩)|refine kF g8 [(0,0)] rfl ?_ (hrd:=⟨rfl,trivial⟩)|refine kW cfg_ok ?_|refine kC ?_|refine bdA ?_|refine bd2 ?_|refine bdR ?_|refine bdL ?_)<;>((repeat (first|(with_reducible refine evCut fun N hN hE hT=>?_)|(with_reducible refine evBlk fun N hN hE hT=>?_)));(try with_reducible refine evCnd fun X Y hX hY=>?_);(conv=>whnf)))|(refine And.intro ?_ ?_;rotate_left;(conv=>whnf);rotate_right))
       all_goals trace_state
     · rw [o2,o3] at g6
       conv=>whnf
       repeat' (first|exact trivial|((first|((first|refine hT _ _ ?_|refine hE _ _ _ ?_|refine hN _ _ ?_);clear hN hE hT)|((first|refine hX ?_|refine hY ?_);clear hX hY)|refine kL ?_|(refine ⟨fun hb=>?_,fun hb=>?_⟩<;>(try simp only [nrm] at hb)<;>(try (first|(exfalso;omega)|contradiction|exact kB hb)))|refine kE g4 [(0,0)] rfl ?_ (hrd:=⟨rfl,trivial⟩)|refine kF g4 [(0,0)] rfl ?_ (hrd:=⟨rfl,trivial⟩)|refine kE g5 [(0,0)] rfl ?_ (hrd:=⟨rfl,trivial⟩)|refine kF g5 [(0,0)] rfl ?_ (hrd:=⟨rfl,trivial⟩)|refine kE g6 [(0,0)] rfl ?_ (hrd:=⟨rfl,trivial⟩)|refine kF g6 [(0,0)] rfl ?_ (hrd:=⟨rfl,trivial⟩)|refine kW cfg_ok ?_|refine kC ?_|refine bdA ?_|refine bd2 ?_|refine bdR ?_|refine bdL ?_)<;>((repeat (first|(with_reducible refine evCut fun N hN hE hT=>?_)|(with_reducible refine evBlk fun N hN hE hT=>?_)));(try with_reducible refine evCnd fun X Y hX hY=>?_);(conv=>whnf)))|(refine And.intro ?_ ?_;rotate_left;(conv=>whnf);rotate_right))
       all_goals first|rfl|exact o1|exact o1.symm|trace_state
open Go Go.RowKit Eng
theorem chunkBR_pos {b : List Int} (h8 : okU8 b) {s : Rd} (hp : s.pos ≤ b.length) : (chunkBR b 5000 s).2.pos ≤ b.length:=by
 cases hs : s.bad with
 | true=>rw [chunkBR_bad hs];exact hp
 | false =>
   rw [chunkBR_eq hs h8 hp]
   dsimp only
   split
   · exact (gbN_ok h8 hp).2.2.1
   · exact hp
theorem chunkBR_ok {b : List Int} (h8 : okU8 b) {s : Rd} (hp : s.pos ≤ b.length) : OkC (chunkBR b 5000 s).1 ∧ FitC (chunkBR b 5000 s).1:=by
 have hE : FitC emptyK:=⟨by decide,by decide,by decide,by simp [emptyK]⟩
 cases hs : s.bad with
 | true=>rw [chunkBR_bad hs];exact ⟨okC_emptyK,hE⟩
 | false =>
   rw [chunkBR_eq hs h8 hp]
   dsimp only
   by_cases h : (readC (gbN b s.pos 5000).1).2 = 0
   · have hr:=(bytes_readC (gbN_ok h8 hp).1 h).2
     exact ⟨okC_right hr,fitC_right hr⟩
   · rw [readC_err h];exact ⟨okC_emptyK,hE⟩
theorem offR_pos {b : List Int} (h8 : okU8 b) {w : Int} {s : Rd} (hp : s.pos ≤ b.length) : (offR b w s).2.pos ≤ b.length:=by
 unfold offR
 split
 · exact all_pos (fun s hs=>slotR_pos h8 hs) 8 _ hp
 · exact hp
theorem plR_pos {b : List Int} (h8 : okU8 b) {s : Rd} (hp : s.pos ≤ b.length) : (plR b s).2.pos ≤ b.length:=offR_pos h8 (numI_pos h8 (numI_pos h8 (all_pos (fun s hs=>slotR_pos h8 hs) 8 _ (numI_pos h8 (numI_pos h8 (numI_pos h8 hp))))))
theorem plR_ok {b : List Int} {s : Rd} : OkP (plR b s).1:=by
 have hA : ∀ t : Rd,(allR (slotR b) 8 t).1.length = 8 ∧ ∀ x ∈ (allR (slotR b) 8 t).1,okSlot x:=fun t=>all_mem (f:=slotR b) (p:=okSlot) (fun s=>slotR_bd.1) 8 t
 have hO : ∀ (w : Int) (t : Rd),(offR b w t).1.length ≤ 8 ∧ ∀ x ∈ (offR b w t).1,okSlot x:=fun w t=>by
   unfold offR
   split
   · exact ⟨by rw [(hA t).1];exact Nat.le_refl _,(hA t).2⟩
   · exact ⟨Nat.zero_le _,fun x hx=>by cases hx⟩
 refine ⟨(hA _).2,(hO _ _).2,?_,?_⟩
 · show (allR (slotR b) 8 _).1.length * 16 ≤ _
   rw [(hA _).1];omega
 · show (offR b _ _).1.length * 16 ≤ _
   have:=(hO (numI b 1073741825 (allR (slotR b) 8 (numI b 1000 (numI b 1000 (numI b 1073741824 s).2).2).2).2).1 (numI b 1 (numI b 1073741825 (allR (slotR b) 8 (numI b 1000 (numI b 1000 (numI b 1073741824 s).2).2).2).2).2).2).1
   omega
structure WrOk (b : List Int) : Prop where
 p1 : (wrK b).sz.2.pos ≤ b.length
 p2 : (wrK b).sd.2.pos ≤ b.length
 p3 : (wrK b).tk.2.pos ≤ b.length
 p4 : (wrK b).nc.2.pos ≤ b.length
 p5 : (wrK b).cs.2.pos ≤ b.length
 p6 : (wrK b).np.2.pos ≤ b.length
 nc : 0 ≤ (wrK b).nc.1 ∧ (wrK b).nc.1 ≤ 256
 np : 0 ≤ (wrK b).np.1 ∧ (wrK b).np.1 ≤ 32
 ok : OkW (wldK b)
theorem wrOk {b : List Int} (h8 : okU8 b) : WrOk b:=by
 have p1 : (wrK b).sz.2.pos ≤ b.length:=numI_pos h8 (Nat.zero_le _)
 have p2 : (wrK b).sd.2.pos ≤ b.length:=numI_pos h8 p1
 have p3 : (wrK b).tk.2.pos ≤ b.length:=numI_pos h8 p2
 have p4 : (wrK b).nc.2.pos ≤ b.length:=numI_pos h8 p3
 have nc : 0 ≤ (wrK b).nc.1 ∧ (wrK b).nc.1 ≤ (256 : Nat):=numI_le
 have np : 0 ≤ (wrK b).np.1 ∧ (wrK b).np.1 ≤ (32 : Nat):=numI_le
 have hcs:=many_inv (f:=chunkBR b 5000) (p:=fun c=>OkC c ∧ FitC c) (fun s hs=>⟨chunkBR_ok h8 hs,chunkBR_pos h8 hs⟩) (wrK b).nc.1.toNat (wrK b).nc.2 p4
 have p5 : (wrK b).cs.2.pos ≤ b.length:=hcs.2.2
 have p6 : (wrK b).np.2.pos ≤ b.length:=numI_pos h8 p5
 have hps:=many_inv (f:=plR b) (p:=OkP) (fun s hs=>⟨plR_ok,plR_pos h8 hs⟩) (wrK b).np.1.toNat (wrK b).np.2 p6
 refine ⟨p1,p2,p3,p4,p5,p6,nc,np,⟨fun c hc=>(hcs.2.1 c hc).1,fun c hc=>(hcs.2.1 c hc).2,hps.2.1,?_,?_⟩⟩
 · show (manyR (chunkBR b 5000) (wrK b).nc.1.toNat (wrK b).nc.2).1.length * 88 ≤ _
   omega
 · show (manyR (plR b) (wrK b).np.1.toNat (wrK b).np.2).1.length * 88 ≤ _
   omega
theorem lendWp {P : Program} {fid : FuncId} {w : Wld} {k : Nat} {v : AV} (h : Api P fid [wldV w] v) (hk : k = w.players.length) (hv : scalB v = true) : Ev1 P fid [.agg [i64 w.size,.lit (.int .u64 w.seed),i64 w.tick,.vec .chunk w.chunks,.own .player 1 0 k none]] [(1,.row .player w.players)] v [(1,.row .player w.players)]:=by
 subst hk
 refine Api.lend h ?_ hv
 conv=>whnf
 refine ⟨by omega,?_⟩
 rw [List.drop_zero,List.take_length]
 rfl
theorem wread_api (b : List (El .u8)) (h8 : okU8 b) (hl : b.length ≤ 1000000000000) (R : Wld × Int) (hR : readW b = R) : Api Tryz.prog 32 [.vec .u8 b] (.tup [wldV R.1,i64 R.2]):=by
 have hk:=wrOk h8
 have k1:=hk.p1;have k2:=hk.p2;have k3:=hk.p3;have k4:=hk.p4;have k5:=hk.p5;have k6:=hk.p6
 have knc:=hk.nc;have knp:=hk.np
 have hrt:=rightW_api (wldK b) hk.ok
 clear hk
 have hW : wldK b = ⟨(wrK b).sz.1,(wrK b).sd.1,(wrK b).tk.1,(wrK b).cs.1,(wrK b).ps.1⟩:=rfl
 unfold readW at hR
 rw [hW] at hrt hR
 clear hW
 have g1 : Ev1 Tryz.prog 85 _ [(0,.box [.vec .u8 b,i64 0,.ff])] (i64 (wrK b).sz.1) [(0,.box (rdC b (wrK b).sz.2))]:=wnum0_ev b 16 h8 hl (by omega)
 have g2 : Ev1 Tryz.prog 86 _ [(0,.box (rdC b (wrK b).sz.2))] (.lit (.int .u64 (wrK b).sd.1)) [(0,.box (rdC b (wrK b).sd.2))]:=wwide_ev b (wrK b).sz.2 B64 h8 hl k1
 have g3 : Ev1 Tryz.prog 85 _ [(0,.box (rdC b (wrK b).sd.2))] (i64 (wrK b).tk.1) [(0,.box (rdC b (wrK b).tk.2))]:=wnum_ev b (wrK b).sd.2 B40 h8 hl k2 (by decide)
 have g4 : Ev1 Tryz.prog 85 _ [(0,.box (rdC b (wrK b).tk.2))] (i64 (wrK b).nc.1) [(0,.box (rdC b (wrK b).nc.2))]:=wnum_ev b (wrK b).tk.2 256 h8 hl k3 (by omega)
 have g6 : Ev1 Tryz.prog 85 _ [(0,.box (rdC b (wrK b).cs.2))] (i64 (wrK b).np.1) [(0,.box (rdC b (wrK b).np.2))]:=wnum_ev b (wrK b).cs.2 32 h8 hl k5 (by omega)
 have ec : (wrK b).cs = manyR (chunkBR b 5000) (wrK b).nc.1.toNat (wrK b).nc.2:=rfl
 have es : (wrK b).ps = manyR (plR b) (wrK b).np.1.toNat (wrK b).np.2:=rfl
 generalize wrK b = K at *
 obtain ⟨⟨sz,zp,zb⟩,⟨sd,dp,db⟩,⟨tk,tp,tb⟩,⟨nc,np,nb⟩,⟨cs,cp,cb⟩,⟨no,mp,mb⟩,⟨ps,sp,sb⟩⟩:=K
 dsimp only at *
 have hr2:=lendWp hrt rfl rfl
 dsimp only at hr2
 generalize rightW ⟨sz,sd,tk,cs,ps⟩ = G at *
 have W1 : sb = true → R = (zeroW,113):=fun h=>by rw [← hR,if_pos (.inl h)]
 have W2 : ¬ (sp : Int) = b.length → R = (zeroW,113):=fun h=>by rw [← hR,if_pos (.inr (.inl (by omega)))]
 have W3 : G = false → R = (zeroW,113):=fun h=>by rw [← hR,if_pos (.inr (.inr h))]
 have W4 : sb = false → (sp : Int) = b.length → G = true → R = (⟨sz,sd,tk,cs,ps⟩,0):=fun h1 h2 h3=>by
   rw [← hR,if_neg]
   rintro (h|h|h)
   · rw [h1] at h;cases h
   · exact h (by omega)
   · rw [h3] at h;cases h
 clear hR hrt
 change Ev1 _ _ _ _ _ [(0,.box [.vec .u8 b,i64 zp,bol zb])] at g1
 change Ev1 _ _ _ [(0,.box [.vec .u8 b,i64 zp,bol zb])] _ [(0,.box [.vec .u8 b,i64 dp,bol db])] at g2
 change Ev1 _ _ _ [(0,.box [.vec .u8 b,i64 dp,bol db])] _ [(0,.box [.vec .u8 b,i64 tp,bol tb])] at g3
 change Ev1 _ _ _ [(0,.box [.vec .u8 b,i64 tp,bol tb])] _ [(0,.box [.vec .u8 b,i64 np,bol nb])] at g4
 change Ev1 _ _ _ [(0,.box [.vec .u8 b,i64 cp,bol cb])] _ [(0,.box [.vec .u8 b,i64 mp,bol mb])] at g6
 refine Api.of_fin cfg_ok Tryz.func32 rfl (nt:=79) rfl rfl ?_
 ((repeat (first|(with_reducible refine evCut fun N hN hE hT=>?_)|(with_reducible refine evBlk fun N hN hE hT=>?_)));(try with_reducible refine evCnd fun X Y hX hY=>?_);(conv=>whnf))
 repeat' (first|exact trivial|((first|((first|refine hT _ _ ?_|refine hE _ _ _ ?_|refine hN _ _ ?_);clear hN hE hT)|((first|refine hX ?_|refine hY ?_);clear hX hY)|refine kL ?_|(refine ⟨fun hb=>?_,fun hb=>?_⟩<;>(try simp only [nrm] at hb)<;>(try (first|(exfalso;omega)|contradiction|exact kB hb)))|refine kE g1 [(0,20)] rfl ?_ (hrd:=⟨rfl,trivial⟩)|refine kF g1 [(0,20)] rfl ?_ (hrd:=⟨rfl,trivial⟩)|refine kE g2 [(0,20)] rfl ?_ (hrd:=⟨rfl,trivial⟩)|refine kF g2 [(0,20)] rfl ?_ (hrd:=⟨rfl,trivial⟩)|refine kE g3 [(0,20)] rfl ?_ (hrd:=⟨rfl,trivial⟩)|refine kF g3 [(0,20)] rfl ?_ (hrd:=⟨rfl,trivial⟩)|refine kE g4 [(0,20)] rfl ?_ (hrd:=⟨rfl,trivial⟩)|refine kF g4 [(0,20)] rfl ?_ (hrd:=⟨rfl,trivial⟩)|refine kW cfg_ok ?_|refine kC ?_|refine bdA ?_|refine bd2 ?_|refine bdR ?_|refine bdL ?_)<;>((repeat (first|(with_reducible refine evCut fun N hN hE hT=>?_)|(with_reducible refine evBlk fun N hN hE hT=>?_)));(try with_reducible refine evCnd fun X Y hX hY=>?_);(conv=>whnf)))|(refine And.intro ?_ ?_;rotate_left;(conv=>whnf);rotate_right))
 clear g1 g2 g3 g4
 refine Runs.loopS cfg_ok (σ:=List (El .chunk) × Nat × Nat × Bool) [0,2,4,5,6] (fun (l,r,p,u)=>[.vec .u8 b,.ptr 4 0,.ptr 20 0,.ptr 10 0,i64 r]) (fun (l,r,p,u)=>[(4,.box (wldC zeroW)),(20,.box [.vec .u8 b,i64 p,bol u]),(10,.box [i64 sz,.lit (.int .u64 sd),i64 tk,.own .chunk 350001 0 l.length none,.lit (.slice none 0 0)]),(350001,.row .chunk l)])
   (fun (l,r,p,u)=>p ≤ b.length ∧ l.length + r ≤ 256 ∧ l ++ (manyR (chunkBR b 5000) r ⟨p,u⟩).1 = cs ∧ (manyR (chunkBR b 5000) r ⟨p,u⟩).2 = ⟨cp,cb⟩) (fun (l,r,p,u)=>r) ([],nc.toNat,np,nb) ⟨k4,by show 0 + nc.toNat ≤ 256;omega,(congrArg Prod.fst ec).symm,(congrArg Prod.snd ec).symm⟩ ?_ ?_
 · conv=>whnf
   repeat' (first|exact trivial|((first|((first|refine hT _ _ ?_|refine hE _ _ _ ?_|refine hN _ _ ?_);clear hN hE hT)|((first|refine hX ?_|refine hY ?_);clear hX hY)|refine kL ?_|(refine ⟨fun hb=>?_,fun hb=>?_⟩<;>(try simp only [nrm] at hb)<;>(try (first|(exfalso;omega)|contradiction|exact kB hb)))|refine kW cfg_ok ?_|refine kC ?_|refine bdA ?_|refine bd2 ?_|refine bdR ?_|refine bdL ?_)<;>((repeat (first|(with_reducible refine evCut fun N hN hE hT=>?_)|(with_reducible refine evBlk fun N hN hE hT=>?_)));(try with_reducible refine evCnd fun X Y hX hY=>?_);(conv=>whnf)))|(refine And.intro ?_ ?_;rotate_left;(conv=>whnf);rotate_right))
   all_goals first|rfl|exact List.take_length|exact List.take_of_length_le (by rw [List.drop_zero];omega)|(dsimp only;exact congrArg (Value.int _) (by omega))|exact congrArg (Value.int _) (by omega)|exact row_grow (t:=.chunk)|exact row_grow (t:=.player)|trace_state
 · rintro ⟨l,r,p,u⟩ ⟨i1,i2,i3,i4⟩
   try dsimp only at i1 i2 i3 i4
   by_cases hlive : 0 < r ∧ u = false
   · obtain ⟨hr0,rfl⟩:=hlive
     obtain ⟨r,rfl⟩ : ∃ r' : Nat,r = r' + 1:=⟨r - 1,by omega⟩
     rw [many_next rfl] at i3 i4
     have q1:=wchunkR_ev b ⟨p,false⟩ h8 hl i1
     have q2 : (chunkBR b 5000 ⟨p,false⟩).2.pos ≤ b.length:=chunkBR_pos h8 i1
     generalize chunkBR b 5000 ⟨p,false⟩ = C at *
     obtain ⟨c,zp',zb'⟩:=C
     dsimp only at *
     change Ev1 _ _ _ [(0,.box [.vec .u8 b,i64 p,bol false])] _ [(0,.box [.vec .u8 b,i64 zp',bol zb'])] at q1
     conv=>whnf
     repeat' (first|exact trivial|((first|((first|refine hT _ _ ?_|refine hE _ _ _ ?_|refine hN _ _ ?_);clear hN hE hT)|((first|refine hX ?_|refine hY ?_);clear hX hY)|refine kL ?_|(refine ⟨fun hb=>?_,fun hb=>?_⟩<;>(try simp only [nrm] at hb)<;>(try (first|(exfalso;omega)|contradiction|exact kB hb)))|refine kE q1 [(0,20)] rfl ?_ (hrd:=⟨rfl,trivial⟩)|refine kF q1 [(0,20)] rfl ?_ (hrd:=⟨rfl,trivial⟩)|refine kW cfg_ok ?_|refine kC ?_|refine bdA ?_|refine bd2 ?_|refine bdR ?_|refine bdL ?_)<;>((repeat (first|(with_reducible refine evCut fun N hN hE hT=>?_)|(with_reducible refine evBlk fun N hN hE hT=>?_)));(try with_reducible refine evCnd fun X Y hX hY=>?_);(conv=>whnf)))|(refine And.intro ?_ ?_;rotate_left;(conv=>whnf);rotate_right))
     refine .to (l ++ [c],r,zp',zb') ⟨q2,by show (l ++ [_]).length + r ≤ 256;rw [List.length_append,List.length_singleton];omega,by rw [List.append_assoc];exact i3,i4⟩ (by first|omega|(dsimp only;omega)) ?_
     conv=>whnf
     repeat' (first|exact trivial|((first|((first|refine hT _ _ ?_|refine hE _ _ _ ?_|refine hN _ _ ?_);clear hN hE hT)|((first|refine hX ?_|refine hY ?_);clear hX hY)|refine kL ?_|(refine ⟨fun hb=>?_,fun hb=>?_⟩<;>(try simp only [nrm] at hb)<;>(try (first|(exfalso;omega)|contradiction|exact kB hb)))|refine kW cfg_ok ?_|refine kC ?_|refine bdA ?_|refine bd2 ?_|refine bdR ?_|refine bdL ?_)<;>((repeat (first|(with_reducible refine evCut fun N hN hE hT=>?_)|(with_reducible refine evBlk fun N hN hE hT=>?_)));(try with_reducible refine evCnd fun X Y hX hY=>?_);(conv=>whnf)))|(refine And.intro ?_ ?_;rotate_left;(conv=>whnf);rotate_right))
     all_goals first|rfl|exact List.take_length|exact List.take_of_length_le (by rw [List.drop_zero];omega)|(dsimp only;exact congrArg (Value.int _) (by omega))|exact congrArg (Value.int _) (by omega)|exact row_grow (t:=.chunk)|exact row_grow (t:=.player)|trace_state
   · rw [many_dead hlive] at i3 i4
     obtain rfl : cs = l:=by rw [← i3];simp
     obtain ⟨d2,d3⟩:=Rd.mk.inj i4
     obtain rfl : cp = p:=d2.symm
     obtain rfl : cb = u:=d3.symm
     clear i3 i4 d2 d3
     conv=>whnf
     repeat' (first|exact trivial|((first|((first|refine hT _ _ ?_|refine hE _ _ _ ?_|refine hN _ _ ?_);clear hN hE hT)|((first|refine hX ?_|refine hY ?_);clear hX hY)|refine kL ?_|(refine ⟨fun hb=>?_,fun hb=>?_⟩<;>(try simp only [nrm] at hb)<;>(try (first|(exfalso;omega)|contradiction|exact kB hb)))|refine kE g6 [(0,20)] rfl ?_ (hrd:=⟨rfl,trivial⟩)|refine kF g6 [(0,20)] rfl ?_ (hrd:=⟨rfl,trivial⟩)|refine kW cfg_ok ?_|refine kC ?_|refine bdA ?_|refine bd2 ?_|refine bdR ?_|refine bdL ?_)<;>((repeat (first|(with_reducible refine evCut fun N hN hE hT=>?_)|(with_reducible refine evBlk fun N hN hE hT=>?_)));(try with_reducible refine evCnd fun X Y hX hY=>?_);(conv=>whnf)))|(refine And.intro ?_ ?_;rotate_left;(conv=>whnf);rotate_right))
     all_goals (try (exact absurd ⟨by omega,by simpa using hb⟩ hlive))
     all_goals
       refine Runs.loopS cfg_ok (σ:=List (El .player) × Nat × Nat × Bool) [0,2,4,5,7] (fun (l,r,p,u)=>[.vec .u8 b,.ptr 4 0,.ptr 20 0,.ptr 10 0,i64 r]) (fun (l,r,p,u)=>[(4,.box (wldC zeroW)),(20,.box [.vec .u8 b,i64 p,bol u]),(10,.box [i64 sz,.lit (.int .u64 sd),i64 tk,.vec .chunk cs,.own .player 350003 0 l.length none]),(350003,.row .player l)])
         (fun (l,r,p,u)=>p ≤ b.length ∧ l.length + r ≤ 32 ∧ l ++ (manyR (plR b) r ⟨p,u⟩).1 = ps ∧ (manyR (plR b) r ⟨p,u⟩).2 = ⟨sp,sb⟩) (fun (l,r,p,u)=>r) ([],no.toNat,mp,mb) ⟨k6,by show 0 + no.toNat ≤ 32;omega,(congrArg Prod.fst es).symm,(congrArg Prod.snd es).symm⟩ ?_ ?_
       · conv=>whnf
         repeat' (first|exact trivial|((first|((first|refine hT _ _ ?_|refine hE _ _ _ ?_|refine hN _ _ ?_);clear hN hE hT)|((first|refine hX ?_|refine hY ?_);clear hX hY)|refine kL ?_|(refine ⟨fun hb=>?_,fun hb=>?_⟩<;>(try simp only [nrm] at hb)<;>(try (first|(exfalso;omega)|contradiction|exact kB hb)))|refine kW cfg_ok ?_|refine kC ?_|refine bdA ?_|refine bd2 ?_|refine bdR ?_|refine bdL ?_)<;>((repeat (first|(with_reducible refine evCut fun N hN hE hT=>?_)|(with_reducible refine evBlk fun N hN hE hT=>?_)));(try with_reducible refine evCnd fun X Y hX hY=>?_);(conv=>whnf)))|(refine And.intro ?_ ?_;rotate_left;(conv=>whnf);rotate_right))
         all_goals first|rfl|exact List.take_length|exact List.take_of_length_le (by rw [List.drop_zero];omega)|(dsimp only;exact congrArg (Value.int _) (by omega))|exact congrArg (Value.int _) (by omega)|exact row_grow (t:=.chunk)|exact row_grow (t:=.player)|trace_state
       · rintro ⟨l,r2,p,u⟩ ⟨i1,i2,i3,i4⟩
         try dsimp only at i1 i2 i3 i4
         by_cases hlive2 : 0 < r2 ∧ u = false
         · obtain ⟨hr0,rfl⟩:=hlive2
           obtain ⟨r2,rfl⟩ : ∃ r' : Nat,r2 = r' + 1:=⟨r2 - 1,by omega⟩
           rw [many_next rfl] at i3 i4
           have q1:=wplayerR_ev b ⟨p,false⟩ h8 hl i1
           have q2 : (plR b ⟨p,false⟩).2.pos ≤ b.length:=plR_pos h8 i1
           generalize plR b ⟨p,false⟩ = C at *
           obtain ⟨c,zp',zb'⟩:=C
           dsimp only at *
           change Ev1 _ _ _ [(0,.box [.vec .u8 b,i64 p,bol false])] _ [(0,.box [.vec .u8 b,i64 zp',bol zb'])] at q1
           conv=>whnf
           repeat' (first|exact trivial|((first|((first|refine hT _ _ ?_|refine hE _ _ _ ?_|refine hN _ _ ?_);clear hN hE hT)|((first|refine hX ?_|refine hY ?_);clear hX hY)|refine kL ?_|(refine ⟨fun hb=>?_,fun hb=>?_⟩<;>(try simp only [nrm] at hb)<;>(try (first|(exfalso;omega)|contradiction|exact kB hb)))|refine kE q1 [(0,20)] rfl ?_ (hrd:=⟨rfl,trivial⟩)|refine kF q1 [(0,20)] rfl ?_ (hrd:=⟨rfl,trivial⟩)|refine kW cfg_ok ?_|refine kC ?_|refine bdA ?_|refine bd2 ?_|refine bdR ?_|refine bdL ?_)<;>((repeat (first|(with_reducible refine evCut fun N hN hE hT=>?_)|(with_reducible refine evBlk fun N hN hE hT=>?_)));(try with_reducible refine evCnd fun X Y hX hY=>?_);(conv=>whnf)))|(refine And.intro ?_ ?_;rotate_left;(conv=>whnf);rotate_right))
           refine .to (l ++ [c],r2,zp',zb') ⟨q2,by show (l ++ [_]).length + r2 ≤ 32;rw [List.length_append,List.length_singleton];omega,by rw [List.append_assoc];exact i3,i4⟩ (by first|omega|(dsimp only;omega)) ?_
           conv=>whnf
           repeat' (first|exact trivial|((first|((first|refine hT _ _ ?_|refine hE _ _ _ ?_|refine hN _ _ ?_);clear hN hE hT)|((first|refine hX ?_|refine hY ?_);clear hX hY)|refine kL ?_|(refine ⟨fun hb=>?_,fun hb=>?_⟩<;>(try simp only [nrm] at hb)<;>(try (first|(exfalso;omega)|contradiction|exact kB hb)))|refine kW cfg_ok ?_|refine kC ?_|refine bdA ?_|refine bd2 ?_|refine bdR ?_|refine bdL ?_)<;>((repeat (first|(with_reducible refine evCut fun N hN hE hT=>?_)|(with_reducible refine evBlk fun N hN hE hT=>?_)));(try with_reducible refine evCnd fun X Y hX hY=>?_);(conv=>whnf)))|(refine And.intro ?_ ?_;rotate_left;(conv=>whnf);rotate_right))
           all_goals first|rfl|exact List.take_length|exact List.take_of_length_le (by rw [List.drop_zero];omega)|(dsimp only;exact congrArg (Value.int _) (by omega))|exact congrArg (Value.int _) (by omega)|exact row_grow (t:=.chunk)|exact row_grow (t:=.player)|trace_state
         · rw [many_dead hlive2] at i3 i4
           obtain rfl : ps = l:=by rw [← i3];simp
           obtain ⟨d2,d3⟩:=Rd.mk.inj i4
           obtain rfl : sp = p:=d2.symm
           obtain rfl : sb = u:=d3.symm
           clear i3 i4 d2 d3
           conv=>whnf
           repeat' (first|exact trivial|((first|((first|refine hT _ _ ?_|refine hE _ _ _ ?_|refine hN _ _ ?_);clear hN hE hT)|((first|refine hX ?_|refine hY ?_);clear hX hY)|refine kL ?_|(refine ⟨fun hb=>?_,fun hb=>?_⟩<;>(try simp only [nrm] at hb)<;>(try (first|(exfalso;omega)|contradiction|exact kB hb)))|refine kE hr2 [(1,350003)] rfl ?_ (hrd:=⟨rfl,trivial⟩)|refine kF hr2 [(1,350003)] rfl ?_ (hrd:=⟨rfl,trivial⟩)|refine kW cfg_ok ?_|refine kC ?_|refine bdA ?_|refine bd2 ?_|refine bdR ?_|refine bdL ?_)<;>((repeat (first|(with_reducible refine evCut fun N hN hE hT=>?_)|(with_reducible refine evBlk fun N hN hE hT=>?_)));(try with_reducible refine evCnd fun X Y hX hY=>?_);(conv=>whnf)))|(refine And.intro ?_ ?_;rotate_left;(conv=>whnf);rotate_right))
           all_goals (try (exact absurd ⟨by omega,by simpa using hb⟩ hlive2))
           all_goals first|(rw [W1 (by assumption)];first|done|rfl)|(rw [W2 (by assumption)];first|done|rfl)|(rw [W3 (by assumption)];first|done|rfl)|(rw [W4 (by assumption) (by assumption) (by assumption)];first|done|rfl|exact List.take_length)|trace_state
end Go.Proofs.YtaecchphjploaaaGreat
