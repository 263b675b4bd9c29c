/- homesteadref20.Take. -/
import Derived.Test.YtaecchphjploaaaGreatHa
import Derived.Test.YtaecchphjploaaaGreatGz
import Derived.Test.YtaecchphjploaaaGreatGp
set_option linter.unusedSimpArgs false
set_option linter.unusedVariables false
set_option maxRecDepth 100000
set_option maxHeartbeats 16000000
namespace Go.Proofs.YtaecchphjploaaaGreat
open Go Go.RowKit Eng
theorem bR (b : List (El .u8)) (s : Rd) (hb8 : au b) (hl : b.length ≤ 1000000000000) (hp : s.pos ≤ b.length) : Ev1 Tryz.prog 110 [.ptr 0 0] [(0,.box (rdC b s))] (i64 (ac b B40 s).1) [(0,.box (rdC b (ac b B40 s).2))]:=by
 have hu:=gy b s.pos hb8 hl hp _ rfl
 obtain ⟨h1,h2⟩:=fY hb8 hp
 cases hs : s.bad with
 | true =>
   rw [dy hs]
   generalize guN b s.pos = G at *
   obtain ⟨n,f,e⟩:=G
   obtain ⟨p,bd⟩:=s
   replace hs : bd = true:=hs
   subst hs
   dsimp only at *
   refine Ev1.of_fin aa Tryz.func110 rfl (nt:=39) rfl rfl rfl ?_
   ((repeat (first|(with_reducible refine af fun N hN hE hT=>?_)|(with_reducible refine ah fun N hN hE hT=>?_)));(try with_reducible refine ai fun X Y hX hY=>?_);(conv=>whnf))
   repeat' (first|exact trivial|((first|((first|refine hT _ _ ?_|refine hE _ _ _ ?_|refine hN _ _ ?_);clear hN hE hT)|((first|refine hX ?_|refine hY ?_);clear hX hY)|refine kL ?_|(refine ⟨fun hb=>?_,fun hb=>?_⟩<;>(try simp only [nrm] at hb)<;>(try (first|(exfalso;omega)|contradiction|exact kB hb)))|refine kA hu ?_|refine kD hu ?_|refine kW aa ?_|refine kC ?_|refine bdA ?_|refine bd2 ?_|refine bdR ?_|refine bdL ?_)<;>((repeat (first|(with_reducible refine af fun N hN hE hT=>?_)|(with_reducible refine ah fun N hN hE hT=>?_)));(try with_reducible refine ai fun X Y hX hY=>?_);(conv=>whnf)))|(refine And.intro ?_ ?_;rotate_left;(conv=>whnf);rotate_right))
   all_goals first|rfl|trace_state
 | false =>
   rw [dq hs]
   generalize guN b s.pos = G at *
   obtain ⟨n,f,e⟩:=G
   dsimp only at *
   by_cases c1 : e = 0 ∧ n ≤ B40
   · rw [if_pos c1]
     obtain ⟨rfl,c2⟩:=c1
     have c3 : n ≤ 1099511627776:=c2
     dsimp only
     refine Ev1.of_fin aa Tryz.func110 rfl (nt:=39) rfl rfl rfl ?_
     ((repeat (first|(with_reducible refine af fun N hN hE hT=>?_)|(with_reducible refine ah fun N hN hE hT=>?_)));(try with_reducible refine ai fun X Y hX hY=>?_);(conv=>whnf))
     repeat' (first|exact trivial|((first|((first|refine hT _ _ ?_|refine hE _ _ _ ?_|refine hN _ _ ?_);clear hN hE hT)|((first|refine hX ?_|refine hY ?_);clear hX hY)|refine kL ?_|(refine ⟨fun hb=>?_,fun hb=>?_⟩<;>(try simp only [nrm] at hb)<;>(try (first|(exfalso;omega)|contradiction|exact kB hb)))|refine kA hu ?_|refine kD hu ?_|refine kW aa ?_|refine kC ?_|refine bdA ?_|refine bd2 ?_|refine bdR ?_|refine bdL ?_)<;>((repeat (first|(with_reducible refine af fun N hN hE hT=>?_)|(with_reducible refine ah fun N hN hE hT=>?_)));(try with_reducible refine ai fun X Y hX hY=>?_);(conv=>whnf)))|(refine And.intro ?_ ?_;rotate_left;(conv=>whnf);rotate_right))
     all_goals (try exact congrArg Value.bool hs)
     all_goals first|omega|trace_state
   · rw [if_neg c1]
     have c3 : e = 0 → ¬ n ≤ 1099511627776:=fun h1 h2=>c1 ⟨h1,h2⟩
     dsimp only
     refine Ev1.of_fin aa Tryz.func110 rfl (nt:=39) rfl rfl rfl ?_
     ((repeat (first|(with_reducible refine af fun N hN hE hT=>?_)|(with_reducible refine ah fun N hN hE hT=>?_)));(try with_reducible refine ai fun X Y hX hY=>?_);(conv=>whnf))
     repeat' (first|exact trivial|((first|((first|refine hT _ _ ?_|refine hE _ _ _ ?_|refine hN _ _ ?_);clear hN hE hT)|((first|refine hX ?_|refine hY ?_);clear hX hY)|refine kL ?_|(refine ⟨fun hb=>?_,fun hb=>?_⟩<;>(try simp only [nrm] at hb)<;>(try (first|(exfalso;omega)|contradiction|exact kB hb)))|refine kA hu ?_|refine kD hu ?_|refine kW aa ?_|refine kC ?_|refine bdA ?_|refine bd2 ?_|refine bdR ?_|refine bdL ?_)<;>((repeat (first|(with_reducible refine af fun N hN hE hT=>?_)|(with_reducible refine ah fun N hN hE hT=>?_)));(try with_reducible refine ai fun X Y hX hY=>?_);(conv=>whnf)))|(refine And.intro ?_ ?_;rotate_left;(conv=>whnf);rotate_right))
     all_goals (try exact congrArg Value.bool hs)
     all_goals first|omega|trace_state
theorem Ag (b : List (El .u8)) (hb8 : au b) (hl : b.length ≤ 1000000000000) : Ev1 Tryz.prog 110 [.ptr 0 0] [(0,.box [.vec .u8 b,i64 0,.ff])] (i64 (ac b B40 ⟨0,false⟩).1) [(0,.box (rdC b (ac b B40 ⟨0,false⟩).2))]:=by
 have hu:=gy b 0 hb8 hl (Nat.zero_le _) _ rfl
 obtain ⟨h1,h2⟩:=fY hb8 (pos:=0) (Nat.zero_le _)
 rw [dq rfl]
 change Api _ _ [.vec .u8 b,i64 0] _ at hu
 dsimp only at *
 generalize guN b 0 = G at *
 obtain ⟨n,f,e⟩:=G
 dsimp only at *
 by_cases c1 : e = 0 ∧ n ≤ B40
 · rw [if_pos c1]
   obtain ⟨rfl,c2⟩:=c1
   have c3 : n ≤ 1099511627776:=c2
   dsimp only
   refine Ev1.of_fin aa Tryz.func110 rfl (nt:=39) rfl rfl rfl ?_
   ((repeat (first|(with_reducible refine af fun N hN hE hT=>?_)|(with_reducible refine ah fun N hN hE hT=>?_)));(try with_reducible refine ai fun X Y hX hY=>?_);(conv=>whnf))
   repeat' (first|exact trivial|((first|((first|refine hT _ _ ?_|refine hE _ _ _ ?_|refine hN _ _ ?_);clear hN hE hT)|((first|refine hX ?_|refine hY ?_);clear hX hY)|refine kL ?_|(refine ⟨fun hb=>?_,fun hb=>?_⟩<;>(try simp only [nrm] at hb)<;>(try (first|(exfalso;omega)|contradiction|exact kB hb)))|refine kA hu ?_|refine kD hu ?_|refine kW aa ?_|refine kC ?_|refine bdA ?_|refine bd2 ?_|refine bdR ?_|refine bdL ?_)<;>((repeat (first|(with_reducible refine af fun N hN hE hT=>?_)|(with_reducible refine ah fun N hN hE hT=>?_)));(try with_reducible refine ai fun X Y hX hY=>?_);(conv=>whnf)))|(refine And.intro ?_ ?_;rotate_left;(conv=>whnf);rotate_right))
   all_goals first|omega|trace_state
 · rw [if_neg c1]
   have c3 : e = 0 → ¬ n ≤ 1099511627776:=fun h1 h2=>c1 ⟨h1,h2⟩
   dsimp only
   refine Ev1.of_fin aa Tryz.func110 rfl (nt:=39) rfl rfl rfl ?_
   ((repeat (first|(with_reducible refine af fun N hN hE hT=>?_)|(with_reducible refine ah fun N hN hE hT=>?_)));(try with_reducible refine ai fun X Y hX hY=>?_);(conv=>whnf))
   repeat' (first|exact trivial|((first|((first|refine hT _ _ ?_|refine hE _ _ _ ?_|refine hN _ _ ?_);clear hN hE hT)|((first|refine hX ?_|refine hY ?_);clear hX hY)|refine kL ?_|(refine ⟨fun hb=>?_,fun hb=>?_⟩<;>(try simp only [nrm] at hb)<;>(try (first|(exfalso;omega)|contradiction|exact kB hb)))|refine kA hu ?_|refine kD hu ?_|refine kW aa ?_|refine kC ?_|refine bdA ?_|refine bd2 ?_|refine bdR ?_|refine bdL ?_)<;>((repeat (first|(with_reducible refine af fun N hN hE hT=>?_)|(with_reducible refine ah fun N hN hE hT=>?_)));(try with_reducible refine ai fun X Y hX hY=>?_);(conv=>whnf)))|(refine And.intro ?_ ?_;rotate_left;(conv=>whnf);rotate_right))
   all_goals first|rfl|omega|trace_state
theorem Ah (b : List (El .u8)) (p : Nat) (hb8 : au b) (hl : b.length ≤ 1000000000000) (hp : p ≤ b.length) : Ev1 Tryz.prog 110 [.ptr 0 0] [(0,.box [.vec .u8 b,i64 p,.tt])] (i64 0) [(0,.box [.vec .u8 b,i64 p,bol true])]:=by
 have hu:=gy b p hb8 hl hp _ rfl
 obtain ⟨h1,h2⟩:=fY hb8 hp
 generalize guN b p = G at *
 obtain ⟨n,f,e⟩:=G
 dsimp only at *
 refine Ev1.of_fin aa Tryz.func110 rfl (nt:=39) rfl rfl rfl ?_
 ((repeat (first|(with_reducible refine af fun N hN hE hT=>?_)|(with_reducible refine ah fun N hN hE hT=>?_)));(try with_reducible refine ai fun X Y hX hY=>?_);(conv=>whnf))
 repeat' (first|exact trivial|((first|((first|refine hT _ _ ?_|refine hE _ _ _ ?_|refine hN _ _ ?_);clear hN hE hT)|((first|refine hX ?_|refine hY ?_);clear hX hY)|refine kL ?_|(refine ⟨fun hb=>?_,fun hb=>?_⟩<;>(try simp only [nrm] at hb)<;>(try (first|(exfalso;omega)|contradiction|exact kB hb)))|refine kA hu ?_|refine kD hu ?_|refine kW aa ?_|refine kC ?_|refine bdA ?_|refine bd2 ?_|refine bdR ?_|refine bdL ?_)<;>((repeat (first|(with_reducible refine af fun N hN hE hT=>?_)|(with_reducible refine ah fun N hN hE hT=>?_)));(try with_reducible refine ai fun X Y hX hY=>?_);(conv=>whnf)))|(refine And.intro ?_ ?_;rotate_left;(conv=>whnf);rotate_right))
 all_goals first|rfl|trace_state
theorem Cm {b : List Int} {s : Rd} {x1 x2 : Int × Rd} (h1 : ac b B40 s = x1) (hb : 255 < x1.1) (h2 : ac b B40 ⟨x1.2.pos,true⟩ = x2) : dS b s = (⟨x1.1 % 256,x2.1⟩,x2.2):=by
 subst h1 h2
 unfold dS
 rw [if_pos hb]
theorem xl {b : List Int} {s : Rd} {x1 x2 : Int × Rd} (h1 : ac b B40 s = x1) (hb : ¬ 255 < x1.1) (h2 : ac b B40 x1.2 = x2) : dS b s = (⟨x1.1 % 256,x2.1⟩,x2.2):=by
 subst h1 h2
 unfold dS
 rw [if_neg hb]
theorem pF (b : List (El .u8)) (s : Rd) (h8 : au b) (hl : b.length ≤ 1000000000000) (hp : s.pos ≤ b.length) : Ev1 Tryz.prog 111 [.ptr 0 0] [(0,.box (rdC b s))] (.vec .slot (ao (dS b) 8 s).1) [(0,.box (rdC b (ao (dS b) 8 s).2))]:=by
 obtain ⟨p0,u0⟩:=s
 obtain ⟨RS,hRS⟩ : ∃ R,ao (dS b) 8 ⟨p0,u0⟩ = R:=⟨_,rfl⟩
 rw [hRS]
 obtain ⟨RL,rp,ru⟩:=RS
 dsimp only at *
 refine Ev1.of_fin aa Tryz.func111 rfl (nt:=32) rfl rfl rfl ?_
 ((repeat (first|(with_reducible refine af fun N hN hE hT=>?_)|(with_reducible refine ah fun N hN hE hT=>?_)));(try with_reducible refine ai fun X Y hX hY=>?_);(conv=>whnf))
 repeat' (first|exact trivial|((first|((first|refine hT _ _ ?_|refine hE _ _ _ ?_|refine hN _ _ ?_);clear hN hE hT)|((first|refine hX ?_|refine hY ?_);clear hX hY)|refine kL ?_|(refine ⟨fun hb=>?_,fun hb=>?_⟩<;>(try simp only [nrm] at hb)<;>(try (first|(exfalso;omega)|contradiction|exact kB hb)))|refine kW aa ?_|refine kC ?_|refine bdA ?_|refine bd2 ?_|refine bdR ?_|refine bdL ?_)<;>((repeat (first|(with_reducible refine af fun N hN hE hT=>?_)|(with_reducible refine ah fun N hN hE hT=>?_)));(try with_reducible refine ai fun X Y hX hY=>?_);(conv=>whnf)))|(refine And.intro ?_ ?_;rotate_left;(conv=>whnf);rotate_right))
 refine aw.loopS aa (σ:=List (El .slot) × Nat × Nat × Bool) [0,3,4] (fun (l,k,t,u)=>[.ptr 0 0,.own .slot 350061 0 l.length none,i64 k]) (fun (l,k,t,u)=>[(0,.box [.vec .u8 b,i64 t,bol u]),(350061,.row .slot l)])
   (fun (l,k,t,u)=>l.length = k ∧ k ≤ 8 ∧ t ≤ b.length ∧ l ++ (ao (dS b) (8 - k) ⟨t,u⟩).1 = RL ∧ (ao (dS b) (8 - k) ⟨t,u⟩).2 = ⟨rp,ru⟩) (fun (l,k,t,u)=>8 - k) ([],0,p0,u0) ⟨rfl,Nat.zero_le _,hp,by rw [Nat.sub_zero,hRS];rfl,by rw [Nat.sub_zero,hRS]⟩ ?_ ?_
 · conv=>whnf
   repeat' (first|exact trivial|((first|((first|refine hT _ _ ?_|refine hE _ _ _ ?_|refine hN _ _ ?_);clear hN hE hT)|((first|refine hX ?_|refine hY ?_);clear hX hY)|refine kL ?_|(refine ⟨fun hb=>?_,fun hb=>?_⟩<;>(try simp only [nrm] at hb)<;>(try (first|(exfalso;omega)|contradiction|exact kB hb)))|refine kW aa ?_|refine kC ?_|refine bdA ?_|refine bd2 ?_|refine bdR ?_|refine bdL ?_)<;>((repeat (first|(with_reducible refine af fun N hN hE hT=>?_)|(with_reducible refine ah fun N hN hE hT=>?_)));(try with_reducible refine ai fun X Y hX hY=>?_);(conv=>whnf)))|(refine And.intro ?_ ?_;rotate_left;(conv=>whnf);rotate_right))
   all_goals first|rfl|trace_state
 · rintro ⟨l,k,t,u⟩ ⟨m1,m2,m3,m4,m5⟩
   try dsimp only at m1 m2 m3 m4 m5
   by_cases hlive : 0 < 8 - k ∧ u = false
   · obtain ⟨hr0,rfl⟩:=hlive
     obtain ⟨r,hr⟩ : ∃ r' : Nat,8 - k = r' + 1:=⟨8 - k - 1,by omega⟩
     have hr2 : 8 - (k + 1) = r:=by omega
     rw [hr,dH rfl] at m4 m5
     obtain ⟨C,hC⟩ : ∃ C,ac b B40 ⟨t,false⟩ = C:=⟨_,rfl⟩
     have g1:=bR b ⟨t,false⟩ h8 hl m3
     have q0 : C.2.pos ≤ b.length:=by rw [← hC];exact av h8 m3
     have q1 : 0 ≤ C.1 ∧ C.1 ≤ (B40 : Nat):=by rw [← hC];exact bt
     rw [hC] at g1
     obtain ⟨c,cp,cb⟩:=C
     dsimp only at q0 q1 g1
     change Ev1 _ _ _ [(0,.box [.vec .u8 b,i64 t,bol false])] _ [(0,.box [.vec .u8 b,i64 cp,bol cb])] at g1
     by_cases hbig : 255 < c
     · have g2:=Ah b cp h8 hl q0
       rw [Cm hC hbig (dy rfl)] at m4 m5
       dsimp only at m4 m5
       clear hC
       conv=>whnf
       repeat' (first|exact trivial|((first|((first|refine hT _ _ ?_|refine hE _ _ _ ?_|refine hN _ _ ?_);clear hN hE hT)|((first|refine hX ?_|refine hY ?_);clear hX hY)|refine kL ?_|(refine ⟨fun hb=>?_,fun hb=>?_⟩<;>(try simp only [nrm] at hb)<;>(try (first|(exfalso;omega)|contradiction|exact kB hb)))|refine kE g1 [(0,0)] rfl ?_ (hrd:=⟨rfl,trivial⟩)|refine kF g1 [(0,0)] rfl ?_ (hrd:=⟨rfl,trivial⟩)|refine kE g2 [(0,0)] rfl ?_ (hrd:=⟨rfl,trivial⟩)|refine kF g2 [(0,0)] rfl ?_ (hrd:=⟨rfl,trivial⟩)|(refine u8K ?_)|refine kW aa ?_|refine kC ?_|refine bdA ?_|refine bd2 ?_|refine bdR ?_|refine bdL ?_)<;>((repeat (first|(with_reducible refine af fun N hN hE hT=>?_)|(with_reducible refine ah fun N hN hE hT=>?_)));(try with_reducible refine ai fun X Y hX hY=>?_);(conv=>whnf)))|(refine And.intro ?_ ?_;rotate_left;(conv=>whnf);rotate_right))
       refine .to (l ++ [⟨c % 256,0⟩],k + 1,cp,true) ⟨by rw [List.length_append,List.length_singleton,m1],(by first|omega|(dsimp only;omega)),q0,by rw [List.append_assoc,hr2];exact m4,by rw [hr2];exact m5⟩ (by first|omega|(dsimp only;omega)) ?_
       conv=>whnf
       repeat' (first|exact trivial|((first|((first|refine hT _ _ ?_|refine hE _ _ _ ?_|refine hN _ _ ?_);clear hN hE hT)|((first|refine hX ?_|refine hY ?_);clear hX hY)|refine kL ?_|(refine ⟨fun hb=>?_,fun hb=>?_⟩<;>(try simp only [nrm] at hb)<;>(try (first|(exfalso;omega)|contradiction|exact kB hb)))|refine kW aa ?_|refine kC ?_|refine bdA ?_|refine bd2 ?_|refine bdR ?_|refine bdL ?_)<;>((repeat (first|(with_reducible refine af fun N hN hE hT=>?_)|(with_reducible refine ah fun N hN hE hT=>?_)));(try with_reducible refine ai fun X Y hX hY=>?_);(conv=>whnf)))|(refine And.intro ?_ ?_;rotate_left;(conv=>whnf);rotate_right))
       all_goals first|rfl|exact aB (t:=.slot)|(rw [ww];exact aB (t:=.slot))|exact congrArg (Value.int _) (by simp)|(simp;done)|trace_state
     · obtain ⟨E,hE4⟩ : ∃ E,ac b B40 ⟨cp,cb⟩ = E:=⟨_,rfl⟩
       have g2:=bR b ⟨cp,cb⟩ h8 hl q0
       have q2 : E.2.pos ≤ b.length:=by rw [← hE4];exact av h8 q0
       rw [hE4] at g2
       rw [xl hC hbig hE4] at m4 m5
       obtain ⟨e,ep,eb⟩:=E
       dsimp only at q2 g2 m4 m5
       rw [wU8 q1.1 (by omega)] at m4
       clear hC hE4
       change Ev1 _ _ _ [(0,.box [.vec .u8 b,i64 cp,bol cb])] _ [(0,.box [.vec .u8 b,i64 ep,bol eb])] at g2
       conv=>whnf
       repeat' (first|exact trivial|((first|((first|refine hT _ _ ?_|refine hE _ _ _ ?_|refine hN _ _ ?_);clear hN hE hT)|((first|refine hX ?_|refine hY ?_);clear hX hY)|refine kL ?_|(refine ⟨fun hb=>?_,fun hb=>?_⟩<;>(try simp only [nrm] at hb)<;>(try (first|(exfalso;omega)|contradiction|exact kB hb)))|refine kE g1 [(0,0)] rfl ?_ (hrd:=⟨rfl,trivial⟩)|refine kF g1 [(0,0)] rfl ?_ (hrd:=⟨rfl,trivial⟩)|refine kE g2 [(0,0)] rfl ?_ (hrd:=⟨rfl,trivial⟩)|refine kF g2 [(0,0)] rfl ?_ (hrd:=⟨rfl,trivial⟩)|refine kW aa ?_|refine kC ?_|refine bdA ?_|refine bd2 ?_|refine bdR ?_|refine bdL ?_)<;>((repeat (first|(with_reducible refine af fun N hN hE hT=>?_)|(with_reducible refine ah fun N hN hE hT=>?_)));(try with_reducible refine ai fun X Y hX hY=>?_);(conv=>whnf)))|(refine And.intro ?_ ?_;rotate_left;(conv=>whnf);rotate_right))
       refine .to (l ++ [⟨c,e⟩],k + 1,ep,eb) ⟨by rw [List.length_append,List.length_singleton,m1],(by first|omega|(dsimp only;omega)),q2,by rw [List.append_assoc,hr2];exact m4,by rw [hr2];exact m5⟩ (by first|omega|(dsimp only;omega)) ?_
       conv=>whnf
       repeat' (first|exact trivial|((first|((first|refine hT _ _ ?_|refine hE _ _ _ ?_|refine hN _ _ ?_);clear hN hE hT)|((first|refine hX ?_|refine hY ?_);clear hX hY)|refine kL ?_|(refine ⟨fun hb=>?_,fun hb=>?_⟩<;>(try simp only [nrm] at hb)<;>(try (first|(exfalso;omega)|contradiction|exact kB hb)))|refine kW aa ?_|refine kC ?_|refine bdA ?_|refine bd2 ?_|refine bdR ?_|refine bdL ?_)<;>((repeat (first|(with_reducible refine af fun N hN hE hT=>?_)|(with_reducible refine ah fun N hN hE hT=>?_)));(try with_reducible refine ai fun X Y hX hY=>?_);(conv=>whnf)))|(refine And.intro ?_ ?_;rotate_left;(conv=>whnf);rotate_right))
       all_goals first|rfl|exact aB (t:=.slot)|exact congrArg (Value.int _) (by simp)|(simp;done)|trace_state
   · rw [rH hlive] at m4 m5
     dsimp only at m4 m5
     obtain rfl : RL = l:=by rw [← m4];simp
     obtain ⟨d2,d3⟩:=Rd.mk.inj m5
     obtain rfl : rp = t:=d2.symm
     obtain rfl : ru = u:=d3.symm
     clear m4 m5 d2 d3 hRS
     conv=>whnf
     repeat' (first|exact trivial|((first|((first|refine hT _ _ ?_|refine hE _ _ _ ?_|refine hN _ _ ?_);clear hN hE hT)|((first|refine hX ?_|refine hY ?_);clear hX hY)|refine kL ?_|(refine ⟨fun hb=>?_,fun hb=>?_⟩<;>(try simp only [nrm] at hb)<;>(try (first|(exfalso;omega)|contradiction|exact kB hb)))|refine kW aa ?_|refine kC ?_|refine bdA ?_|refine bd2 ?_|refine bdR ?_|refine bdL ?_)<;>((repeat (first|(with_reducible refine af fun N hN hE hT=>?_)|(with_reducible refine ah fun N hN hE hT=>?_)));(try with_reducible refine ai fun X Y hX hY=>?_);(conv=>whnf)))|(refine And.intro ?_ ?_;rotate_left;(conv=>whnf);rotate_right))
     all_goals first|(exact absurd ⟨by omega,by simpa using hb⟩ hlive)|rfl|exact List.take_length|trace_state
open Go Go.RowKit Eng
theorem Fl {v : Viw} (hb : baseB v = true) {x y : Int} : mS (aA v x y).1:=by
 cases hf : (aA v x y).2 with
 | true=>exact jH ((eS hb).1 hf)
 | false =>
   have e : (aA v x y).1 = bf:=by
     unfold aA at hf ⊢
     split at hf
     · rename_i h;rw [if_pos h]
     · cases hf
   rw [e];exact ⟨by decide,by decide,by decide,by simp [bf]⟩
theorem F2 {b : List Int} {m : Nat} {s : Rd} (h : ¬ (ac b m s).1 = 0) : (ac b m s).2.bad = false:=by
 cases hs : s.bad with
 | true=>rw [dy hs] at h;exact absurd rfl h
 | false =>
   rw [dq hs] at h ⊢
   split
   · rfl
   · rename_i h1;rw [if_neg h1] at h;exact absurd rfl h
theorem Cn {b : List Int} {v : Viw} {s : Rd} {x1 x2 x3 : Int × Rd} (h1 : ac b B40 s = x1) (h2 : ac b B40 x1.2 = x2) (h3 : ac b B40 x2.2 = x3) : cF b v s = eU b (aA v x1.1 x2.1) x1.1 x2.1 x3.1 x3.2:=by
 subst h1 h2 h3;rfl
theorem xm {b : List Int} {n : Nat} {l : List Int} {s : Rd} {x1 x2 : Int × Rd} (hs : s.bad = false) (h1 : ac b B40 s = x1) (h2 : ac b B40 x1.2 = x2) : cK b (n + 1) l s = if 63 < x1.1 ∨ 255 < x2.1 then (l,⟨x2.2.pos,true⟩) else cK b n (l.set x1.1.toNat x2.1) x2.2:=by
 subst h1 h2
 exact if_neg (by rw [hs];simp)
theorem xn {b : List Int} {n : Nat} {l : List Int} {s : Rd} (h : ¬ (0 < n ∧ s.bad = false)) : cK b n l s = (l,s):=by
 cases n with
 | zero=>rfl
 | succ n =>
   have hu : s.bad = true:=by
     cases hb : s.bad with
     | true=>rfl
     | false=>exact absurd ⟨Nat.succ_pos n,hb⟩ h
   exact if_pos hu
theorem xo (v : Viw) (b : List (El .u8)) (s : Rd) (hv : OkV v) (hB : baseB v = true) (h8 : au b) (hl : b.length ≤ 1000000000000) (hp : s.pos ≤ b.length) : Ev1 Tryz.prog 112 [.ptr 0 0,bk v] [(0,.box (rdC b s))] (bz (cF b v s).1) [(0,.box (rdC b (cF b v s).2))]:=by
 have hnc:=hv.nc
 obtain ⟨X1,h1⟩ : ∃ X,ac b B40 s = X:=⟨_,rfl⟩
 obtain ⟨X2,h2⟩ : ∃ X,ac b B40 X1.2 = X:=⟨_,rfl⟩
 obtain ⟨X3,h3⟩ : ∃ X,ac b B40 X2.2 = X:=⟨_,rfl⟩
 have p1 : X1.2.pos ≤ b.length:=by rw [← h1];exact av h8 hp
 have p2 : X2.2.pos ≤ b.length:=by rw [← h2];exact av h8 p1
 have p3 : X3.2.pos ≤ b.length:=by rw [← h3];exact av h8 p2
 have b3 : 0 ≤ X3.1 ∧ X3.1 ≤ (B40 : Nat):=by rw [← h3];exact bt
 have hnz : ¬ X3.1 = 0 → X3.2.bad = false:=fun h=>by rw [← h3] at h ⊢;exact F2 h
 have g1:=bR b s h8 hl hp
 have g2:=bR b X1.2 h8 hl p1
 have g3:=bR b X2.2 h8 hl p2
 rw [h1] at g1
 rw [h2] at g2
 rw [h3] at g3
 rw [Cn h1 h2 h3]
 clear h1 h2 h3
 obtain ⟨s0,u0⟩:=s
 obtain ⟨x,e1,f1⟩:=X1
 obtain ⟨y,e2,f2⟩:=X2
 obtain ⟨fm,e3,f3⟩:=X3
 dsimp only at *
 change Ev1 _ _ _ [(0,.box [.vec .u8 b,i64 s0,bol u0])] _ [(0,.box [.vec .u8 b,i64 e1,bol f1])] at g1
 change Ev1 _ _ _ [(0,.box [.vec .u8 b,i64 e1,bol f1])] _ [(0,.box [.vec .u8 b,i64 e2,bol f2])] at g2
 change Ev1 _ _ _ [(0,.box [.vec .u8 b,i64 e2,bol f2])] _ [(0,.box [.vec .u8 b,i64 e3,bol f3])] at g3
 have hfd:=pI v x y (by omega) _ rfl
 have hfo:=eS hB (x:=x) (y:=y)
 have hff:=Fl hB (x:=x) (y:=y)
 generalize aA v x y = W at *
 obtain ⟨a,t⟩:=W
 dsimp only at *
 have hcp:=kK a hff
 by_cases c0 : fm = 0 ∧ t = true
 · rw [show eU b (a,t) x y fm ⟨e3,f3⟩ = (a,⟨e3,f3⟩) from if_pos c0]
   obtain ⟨rfl,rfl⟩:=c0
   refine Ev1.of_fin aa Tryz.func112 rfl (nt:=132) rfl rfl rfl ?_
   ((repeat (first|(with_reducible refine af fun N hN hE hT=>?_)|(with_reducible refine ah fun N hN hE hT=>?_)));(try with_reducible refine ai fun X Y hX hY=>?_);(conv=>whnf))
   repeat' (first|exact trivial|((first|((first|refine hT _ _ ?_|refine hE _ _ _ ?_|refine hN _ _ ?_);clear hN hE hT)|((first|refine hX ?_|refine hY ?_);clear hX hY)|refine kL ?_|(refine ⟨fun hb=>?_,fun hb=>?_⟩<;>(try simp only [nrm] at hb)<;>(try (first|(exfalso;omega)|contradiction|exact kB hb)))|refine kE g1 [(0,0)] rfl ?_ (hrd:=⟨rfl,trivial⟩)|refine kF g1 [(0,0)] rfl ?_ (hrd:=⟨rfl,trivial⟩)|refine kE g2 [(0,0)] rfl ?_ (hrd:=⟨rfl,trivial⟩)|refine kF g2 [(0,0)] rfl ?_ (hrd:=⟨rfl,trivial⟩)|refine kE g3 [(0,0)] rfl ?_ (hrd:=⟨rfl,trivial⟩)|refine kF g3 [(0,0)] rfl ?_ (hrd:=⟨rfl,trivial⟩)|refine kE hcp [(390001,350001),(390003,350003),(390005,350005)] rfl ?_|refine kF hcp [(390001,350001),(390003,350003),(390005,350005)] rfl ?_|refine kA hfd ?_|refine kD hfd ?_|refine kW aa ?_|refine kC ?_|refine bdA ?_|refine bd2 ?_|refine bdR ?_|refine bdL ?_)<;>((repeat (first|(with_reducible refine af fun N hN hE hT=>?_)|(with_reducible refine ah fun N hN hE hT=>?_)));(try with_reducible refine ai fun X Y hX hY=>?_);(conv=>whnf)))|(refine And.intro ?_ ?_;rotate_left;(conv=>whnf);rotate_right))
   all_goals first|rfl|exact List.take_length|trace_state
 · by_cases c1 : fm = 1 ∧ t = true
   · have hl64 : a.cells.length = 64:=(bD (hfo.1 c1.2)).len
     obtain ⟨M,hM⟩ : ∃ M,ac b B40 ⟨e3,f3⟩ = M:=⟨_,rfl⟩
     have g4:=bR b ⟨e3,f3⟩ h8 hl p3
     have p4 : M.2.pos ≤ b.length:=by rw [← hM];exact av h8 p3
     have b4 : 0 ≤ M.1 ∧ M.1 ≤ (B40 : Nat):=by rw [← hM];exact bt
     rw [hM] at g4
     have e : eU b (a,t) x y fm ⟨e3,f3⟩ = ({ a with cells:=(cK b M.1.toNat a.cells M.2).1 },(cK b M.1.toNat a.cells M.2).2):=by rw [← hM];exact (if_neg c0).trans (if_pos c1)
     rw [e]
     clear e hM c0
     obtain ⟨rfl,rfl⟩:=c1
     obtain ⟨m,e4,f4⟩:=M
     dsimp only at *
     change Ev1 _ _ _ [(0,.box [.vec .u8 b,i64 e3,bol f3])] _ [(0,.box [.vec .u8 b,i64 e4,bol f4])] at g4
     obtain ⟨Z,hZ⟩ : ∃ Z,cK b m.toNat a.cells ⟨e4,f4⟩ = Z:=⟨_,rfl⟩
     rw [hZ]
     obtain ⟨CL,cp,cu⟩:=Z
     dsimp only
     have b5 : m ≤ 1099511627776:=b4.2
     refine Ev1.of_fin aa Tryz.func112 rfl (nt:=132) rfl rfl rfl ?_
     ((repeat (first|(with_reducible refine af fun N hN hE hT=>?_)|(with_reducible refine ah fun N hN hE hT=>?_)));(try with_reducible refine ai fun X Y hX hY=>?_);(conv=>whnf))
     repeat' (first|exact trivial|((first|((first|refine hT _ _ ?_|refine hE _ _ _ ?_|refine hN _ _ ?_);clear hN hE hT)|((first|refine hX ?_|refine hY ?_);clear hX hY)|refine kL ?_|(refine ⟨fun hb=>?_,fun hb=>?_⟩<;>(try simp only [nrm] at hb)<;>(try (first|(exfalso;omega)|contradiction|exact kB hb)))|refine kE g1 [(0,0)] rfl ?_ (hrd:=⟨rfl,trivial⟩)|refine kF g1 [(0,0)] rfl ?_ (hrd:=⟨rfl,trivial⟩)|refine kE g2 [(0,0)] rfl ?_ (hrd:=⟨rfl,trivial⟩)|refine kF g2 [(0,0)] rfl ?_ (hrd:=⟨rfl,trivial⟩)|refine kE g3 [(0,0)] rfl ?_ (hrd:=⟨rfl,trivial⟩)|refine kF g3 [(0,0)] rfl ?_ (hrd:=⟨rfl,trivial⟩)|refine kE hcp [(390001,350001),(390003,350003),(390005,350005)] rfl ?_|refine kF hcp [(390001,350001),(390003,350003),(390005,350005)] rfl ?_|refine kE g4 [(0,0)] rfl ?_ (hrd:=⟨rfl,trivial⟩)|refine kF g4 [(0,0)] rfl ?_ (hrd:=⟨rfl,trivial⟩)|refine kA hfd ?_|refine kD hfd ?_|refine kW aa ?_|refine kC ?_|refine bdA ?_|refine bd2 ?_|refine bdR ?_|refine bdL ?_)<;>((repeat (first|(with_reducible refine af fun N hN hE hT=>?_)|(with_reducible refine ah fun N hN hE hT=>?_)));(try with_reducible refine ai fun X Y hX hY=>?_);(conv=>whnf)))|(refine And.intro ?_ ?_;rotate_left;(conv=>whnf);rotate_right))
     clear g1 g2 g3 hfd hcp g4
     refine aw.loopS aa (σ:=List (El .u8) × Nat × Nat × Bool) [0,4,10,11] (fun (l,r,t,u)=>[.ptr 0 0,.ptr 200008 0,.ptr 200020 0,i64 r]) (fun (l,r,t,u)=>[(0,.box [.vec .u8 b,i64 t,bol u]),(200008,.box (bj bf)),(200020,.box [i64 a.x,i64 a.y,.own .u8 350001 0 64 none,.own .heap 350003 0 a.heaps.length none,.own .box 350005 0 a.boxes.length none]),(350001,.row .u8 l),(350003,.row .heap a.heaps),(350005,.row .box a.boxes)])
       (fun (l,r,t,u)=>l.length = 64 ∧ r ≤ 1099511627776 ∧ t ≤ b.length ∧ cK b r l ⟨t,u⟩ = (CL,⟨cp,cu⟩)) (fun (l,r,t,u)=>r) (a.cells,m.toNat,e4,f4) ⟨hl64,by show m.toNat ≤ 1099511627776;omega,p4,hZ⟩ ?_ ?_
     · conv=>whnf
       repeat' (first|exact trivial|((first|((first|refine hT _ _ ?_|refine hE _ _ _ ?_|refine hN _ _ ?_);clear hN hE hT)|((first|refine hX ?_|refine hY ?_);clear hX hY)|refine kL ?_|(refine ⟨fun hb=>?_,fun hb=>?_⟩<;>(try simp only [nrm] at hb)<;>(try (first|(exfalso;omega)|contradiction|exact kB hb)))|refine kW aa ?_|refine kC ?_|refine bdA ?_|refine bd2 ?_|refine bdR ?_|refine bdL ?_)<;>((repeat (first|(with_reducible refine af fun N hN hE hT=>?_)|(with_reducible refine ah fun N hN hE hT=>?_)));(try with_reducible refine ai fun X Y hX hY=>?_);(conv=>whnf)))|(refine And.intro ?_ ?_;rotate_left;(conv=>whnf);rotate_right))
       all_goals first|rfl|exact List.take_length|exact congrArg (Value.int _) (by first|omega|(dsimp only;omega))|(dsimp only;omega)|omega|trace_state
     · rintro ⟨l,r,t,u⟩ ⟨m1,m2,m3,m4⟩
       try dsimp only at m1 m2 m3 m4
       by_cases hlive : 0 < r ∧ u = false
       · obtain ⟨hr0,rfl⟩:=hlive
         obtain ⟨r,rfl⟩ : ∃ r' : Nat,r = r' + 1:=⟨r - 1,by omega⟩
         obtain ⟨C,hC⟩ : ∃ C,ac b B40 ⟨t,false⟩ = C:=⟨_,rfl⟩
         obtain ⟨E,hE4⟩ : ∃ E,ac b B40 C.2 = E:=⟨_,rfl⟩
         rw [xm rfl hC hE4] at m4
         have k1:=bR b ⟨t,false⟩ h8 hl m3
         have q0 : C.2.pos ≤ b.length:=by rw [← hC];exact av h8 m3
         have q1 : 0 ≤ C.1 ∧ C.1 ≤ (B40 : Nat):=by rw [← hC];exact bt
         have k2:=bR b C.2 h8 hl q0
         have q2 : E.2.pos ≤ b.length:=by rw [← hE4];exact av h8 q0
         have q3 : 0 ≤ E.1 ∧ E.1 ≤ (B40 : Nat):=by rw [← hE4];exact bt
         rw [hC] at k1
         rw [hE4] at k2
         clear hC hE4
         obtain ⟨c,ep,eb⟩:=C
         obtain ⟨i,ip,ib⟩:=E
         dsimp only at q0 q1 q2 q3 k1 k2 m4
         change Ev1 _ _ _ [(0,.box [.vec .u8 b,i64 t,bol false])] _ [(0,.box [.vec .u8 b,i64 ep,bol eb])] at k1
         change Ev1 _ _ _ [(0,.box [.vec .u8 b,i64 ep,bol eb])] _ [(0,.box [.vec .u8 b,i64 ip,bol ib])] at k2
         by_cases hbig : 63 < c ∨ 255 < i
         · rw [if_pos hbig] at m4
           obtain ⟨m5,m6⟩:=Prod.mk.inj m4
           obtain ⟨m6,m7⟩:=Rd.mk.inj m6
           conv=>whnf
           repeat' (first|exact trivial|((first|((first|refine hT _ _ ?_|refine hE _ _ _ ?_|refine hN _ _ ?_);clear hN hE hT)|((first|refine hX ?_|refine hY ?_);clear hX hY)|refine kL ?_|(refine ⟨fun hb=>?_,fun hb=>?_⟩<;>(try simp only [nrm] at hb)<;>(try (first|(exfalso;omega)|contradiction|exact kB hb)))|refine kE k1 [(0,0)] rfl ?_ (hrd:=⟨rfl,trivial⟩)|refine kF k1 [(0,0)] rfl ?_ (hrd:=⟨rfl,trivial⟩)|refine kE k2 [(0,0)] rfl ?_ (hrd:=⟨rfl,trivial⟩)|refine kF k2 [(0,0)] rfl ?_ (hrd:=⟨rfl,trivial⟩)|refine kW aa ?_|refine kC ?_|refine bdA ?_|refine bd2 ?_|refine bdR ?_|refine bdL ?_)<;>((repeat (first|(with_reducible refine af fun N hN hE hT=>?_)|(with_reducible refine ah fun N hN hE hT=>?_)));(try with_reducible refine ai fun X Y hX hY=>?_);(conv=>whnf)))|(refine And.intro ?_ ?_;rotate_left;(conv=>whnf);rotate_right))
           all_goals first|(exfalso;omega)|rfl|(rw [← m5];done)|(rw [← m5];exact List.take_length)|(rw [← m5];exact List.take_of_length_le (by rw [List.drop_zero];omega))|(show List.take 64 (List.drop 0 l) = CL;rw [← m5];exact List.take_of_length_le (by rw [List.drop_zero];omega))|(rw [← m6];done)|(rw [← m7];done)|(rw [← m6];rfl)|(rw [← m7];rfl)|trace_state
         · rw [if_neg hbig] at m4
           conv=>whnf
           repeat' (first|exact trivial|((first|((first|refine hT _ _ ?_|refine hE _ _ _ ?_|refine hN _ _ ?_);clear hN hE hT)|((first|refine hX ?_|refine hY ?_);clear hX hY)|refine kL ?_|(refine ⟨fun hb=>?_,fun hb=>?_⟩<;>(try simp only [nrm] at hb)<;>(try (first|(exfalso;omega)|contradiction|exact kB hb)))|refine kE k1 [(0,0)] rfl ?_ (hrd:=⟨rfl,trivial⟩)|refine kF k1 [(0,0)] rfl ?_ (hrd:=⟨rfl,trivial⟩)|refine kE k2 [(0,0)] rfl ?_ (hrd:=⟨rfl,trivial⟩)|refine kF k2 [(0,0)] rfl ?_ (hrd:=⟨rfl,trivial⟩)|refine kW aa ?_|refine kC ?_|refine bdA ?_|refine bd2 ?_|refine bdR ?_|refine bdL ?_)<;>((repeat (first|(with_reducible refine af fun N hN hE hT=>?_)|(with_reducible refine ah fun N hN hE hT=>?_)));(try with_reducible refine ai fun X Y hX hY=>?_);(conv=>whnf)))|(refine And.intro ?_ ?_;rotate_left;(conv=>whnf);rotate_right))
           all_goals first|(exfalso;omega)|skip
           refine .to (l.set c.toNat i,r,ip,ib) ⟨by rw [List.length_set];exact m1,(by first|omega|(dsimp only;omega)),q2,m4⟩ (by first|omega|(dsimp only;omega)) ?_
           conv=>whnf
           repeat' (first|exact trivial|((first|((first|refine hT _ _ ?_|refine hE _ _ _ ?_|refine hN _ _ ?_);clear hN hE hT)|((first|refine hX ?_|refine hY ?_);clear hX hY)|refine kL ?_|(refine ⟨fun hb=>?_,fun hb=>?_⟩<;>(try simp only [nrm] at hb)<;>(try (first|(exfalso;omega)|contradiction|exact kB hb)))|refine kW aa ?_|refine kC ?_|refine bdA ?_|refine bd2 ?_|refine bdR ?_|refine bdL ?_)<;>((repeat (first|(with_reducible refine af fun N hN hE hT=>?_)|(with_reducible refine ah fun N hN hE hT=>?_)));(try with_reducible refine ai fun X Y hX hY=>?_);(conv=>whnf)))|(refine And.intro ?_ ?_;rotate_left;(conv=>whnf);rotate_right))
           all_goals first|rfl|exact congrArg (Value.int _) (by first|omega|(dsimp only;omega))|exact List.take_of_length_le (by rw [List.length_set];omega)|(simp;done)|trace_state
       · rw [xn hlive] at m4
         obtain ⟨m5,m6⟩:=Prod.mk.inj m4
         obtain ⟨m6,m7⟩:=Rd.mk.inj m6
         conv=>whnf
         repeat' (first|exact trivial|((first|((first|refine hT _ _ ?_|refine hE _ _ _ ?_|refine hN _ _ ?_);clear hN hE hT)|((first|refine hX ?_|refine hY ?_);clear hX hY)|refine kL ?_|(refine ⟨fun hb=>?_,fun hb=>?_⟩<;>(try simp only [nrm] at hb)<;>(try (first|(exfalso;omega)|contradiction|exact kB hb)))|refine kW aa ?_|refine kC ?_|refine bdA ?_|refine bd2 ?_|refine bdR ?_|refine bdL ?_)<;>((repeat (first|(with_reducible refine af fun N hN hE hT=>?_)|(with_reducible refine ah fun N hN hE hT=>?_)));(try with_reducible refine ai fun X Y hX hY=>?_);(conv=>whnf)))|(refine And.intro ?_ ?_;rotate_left;(conv=>whnf);rotate_right))
         all_goals first|(exact absurd ⟨by omega,by simpa using hb⟩ hlive)|(exfalso;omega)|rfl|(rw [← m5];done)|(rw [← m5];exact List.take_length)|(rw [← m5];exact List.take_of_length_le (by rw [List.drop_zero];omega))|(show List.take 64 (List.drop 0 l) = CL;rw [← m5];exact List.take_of_length_le (by rw [List.drop_zero];omega))|(rw [← m6];done)|(rw [← m7];done)|(rw [← m6];rfl)|(rw [← m7];rfl)|trace_state
   · have c3 : fm = 0 → ¬ t = true:=fun h1 h2=>c0 ⟨h1,h2⟩
     have c4 : fm = 1 → ¬ t = true:=fun h1 h2=>c1 ⟨h1,h2⟩
     by_cases c2 : fm = 2
     · have hs : f3 = false:=hnz (by omega)
       rw [show eU b (a,t) x y fm ⟨e3,f3⟩ = db b x y ⟨e3,f3⟩ from (if_neg c0).trans ((if_neg c1).trans (if_pos c2))]
       rw [mX hs h8 p3]
       clear c0 c1 c3 c4 hcp hff hfo
       subst hs
       subst c2
       have hg:=xt b e3 5000 h8 hl p3 (by omega) _ rfl
       obtain ⟨o1,o2,o3,_⟩:=ol h8 (most:=5000) p3
       dsimp only at *
       generalize gbN b e3 5000 = G at *
       obtain ⟨BB,f,e⟩:=G
       dsimp only at *
       have hc:=xr BB o1 (by omega) _ rfl
       generalize bh BB = R at *
       obtain ⟨c,ce⟩:=R
       dsimp only at *
       by_cases hf : e = 0 ∧ ce = 0 ∧ c.x = x ∧ c.y = y
       · rw [if_pos hf]
         obtain ⟨d1,d2,d3,d4⟩:=hf
         refine Ev1.of_fin aa Tryz.func112 rfl (nt:=132) rfl rfl rfl ?_
         ((repeat (first|(with_reducible refine af fun N hN hE hT=>?_)|(with_reducible refine ah fun N hN hE hT=>?_)));(try with_reducible refine ai fun X Y hX hY=>?_);(conv=>whnf))
         repeat' (first|exact trivial|((first|((first|refine hT _ _ ?_|refine hE _ _ _ ?_|refine hN _ _ ?_);clear hN hE hT)|((first|refine hX ?_|refine hY ?_);clear hX hY)|refine kL ?_|(refine ⟨fun hb=>?_,fun hb=>?_⟩<;>(try simp only [nrm] at hb)<;>(try (first|(exfalso;omega)|contradiction|exact kB hb)))|refine kE g1 [(0,0)] rfl ?_ (hrd:=⟨rfl,trivial⟩)|refine kF g1 [(0,0)] rfl ?_ (hrd:=⟨rfl,trivial⟩)|refine kE g2 [(0,0)] rfl ?_ (hrd:=⟨rfl,trivial⟩)|refine kF g2 [(0,0)] rfl ?_ (hrd:=⟨rfl,trivial⟩)|refine kE g3 [(0,0)] rfl ?_ (hrd:=⟨rfl,trivial⟩)|refine kF g3 [(0,0)] rfl ?_ (hrd:=⟨rfl,trivial⟩)|refine kA hfd ?_|refine kD hfd ?_|refine kA hg ?_|refine kD hg ?_|refine kA hc ?_|refine kD hc ?_|refine kW aa ?_|refine kC ?_|refine bdA ?_|refine bd2 ?_|refine bdR ?_|refine bdL ?_)<;>((repeat (first|(with_reducible refine af fun N hN hE hT=>?_)|(with_reducible refine ah fun N hN hE hT=>?_)));(try with_reducible refine ai fun X Y hX hY=>?_);(conv=>whnf)))|(refine And.intro ?_ ?_;rotate_left;(conv=>whnf);rotate_right))
         all_goals first|rfl|(exfalso;omega)|trace_state
       · rw [if_neg hf]
         refine Ev1.of_fin aa Tryz.func112 rfl (nt:=132) rfl rfl rfl ?_
         ((repeat (first|(with_reducible refine af fun N hN hE hT=>?_)|(with_reducible refine ah fun N hN hE hT=>?_)));(try with_reducible refine ai fun X Y hX hY=>?_);(conv=>whnf))
         repeat' (first|exact trivial|((first|((first|refine hT _ _ ?_|refine hE _ _ _ ?_|refine hN _ _ ?_);clear hN hE hT)|((first|refine hX ?_|refine hY ?_);clear hX hY)|refine kL ?_|(refine ⟨fun hb=>?_,fun hb=>?_⟩<;>(try simp only [nrm] at hb)<;>(try (first|(exfalso;omega)|contradiction|exact kB hb)))|refine kE g1 [(0,0)] rfl ?_ (hrd:=⟨rfl,trivial⟩)|refine kF g1 [(0,0)] rfl ?_ (hrd:=⟨rfl,trivial⟩)|refine kE g2 [(0,0)] rfl ?_ (hrd:=⟨rfl,trivial⟩)|refine kF g2 [(0,0)] rfl ?_ (hrd:=⟨rfl,trivial⟩)|refine kE g3 [(0,0)] rfl ?_ (hrd:=⟨rfl,trivial⟩)|refine kF g3 [(0,0)] rfl ?_ (hrd:=⟨rfl,trivial⟩)|refine kA hfd ?_|refine kD hfd ?_|refine kA hg ?_|refine kD hg ?_|refine kA hc ?_|refine kD hc ?_|refine kW aa ?_|refine kC ?_|refine bdA ?_|refine bd2 ?_|refine bdR ?_|refine bdL ?_)<;>((repeat (first|(with_reducible refine af fun N hN hE hT=>?_)|(with_reducible refine ah fun N hN hE hT=>?_)));(try with_reducible refine ai fun X Y hX hY=>?_);(conv=>whnf)))|(refine And.intro ?_ ?_;rotate_left;(conv=>whnf);rotate_right))
         all_goals first|rfl|(exfalso;exact hf ⟨by omega,by omega,by omega,by omega⟩)|trace_state
     · rw [show eU b (a,t) x y fm ⟨e3,f3⟩ = (bf,⟨e3,true⟩) from (if_neg c0).trans ((if_neg c1).trans (if_neg c2))]
       clear c0 c1 hcp hff hfo
       refine Ev1.of_fin aa Tryz.func112 rfl (nt:=132) rfl rfl rfl ?_
       ((repeat (first|(with_reducible refine af fun N hN hE hT=>?_)|(with_reducible refine ah fun N hN hE hT=>?_)));(try with_reducible refine ai fun X Y hX hY=>?_);(conv=>whnf))
       repeat' (first|exact trivial|((first|((first|refine hT _ _ ?_|refine hE _ _ _ ?_|refine hN _ _ ?_);clear hN hE hT)|((first|refine hX ?_|refine hY ?_);clear hX hY)|refine kL ?_|(refine ⟨fun hb=>?_,fun hb=>?_⟩<;>(try simp only [nrm] at hb)<;>(try (first|(exfalso;omega)|contradiction|exact kB hb)))|refine kE g1 [(0,0)] rfl ?_ (hrd:=⟨rfl,trivial⟩)|refine kF g1 [(0,0)] rfl ?_ (hrd:=⟨rfl,trivial⟩)|refine kE g2 [(0,0)] rfl ?_ (hrd:=⟨rfl,trivial⟩)|refine kF g2 [(0,0)] rfl ?_ (hrd:=⟨rfl,trivial⟩)|refine kE g3 [(0,0)] rfl ?_ (hrd:=⟨rfl,trivial⟩)|refine kF g3 [(0,0)] rfl ?_ (hrd:=⟨rfl,trivial⟩)|refine kA hfd ?_|refine kD hfd ?_|refine kW aa ?_|refine kC ?_|refine bdA ?_|refine bd2 ?_|refine bdR ?_|refine bdL ?_)<;>((repeat (first|(with_reducible refine af fun N hN hE hT=>?_)|(with_reducible refine ah fun N hN hE hT=>?_)));(try with_reducible refine ai fun X Y hX hY=>?_);(conv=>whnf)))|(refine And.intro ?_ ?_;rotate_left;(conv=>whnf);rotate_right))
       all_goals first|rfl|(exfalso;omega)|(exfalso;exact c3 (by omega) (by assumption))|(exfalso;exact c4 (by omega) (by assumption))|trace_state
open Go Go.RowKit Eng
theorem Ai {v : Viw} (h : baseB v = true) : (aV v = true) ∨ (aV v = false ∧ nothingB v = true):=by
 unfold baseB at h
 cases h1 : aV v
 · right;rw [h1,Bool.or_false] at h;exact ⟨rfl,h⟩
 · left;rfl
theorem Aj {v n : Viw} (hv : baseB v = true) : (makeB v n = false ∧ makeE v n = ([],113)) ∨ (makeB v n = true ∧ makeE v n = (makeY v n,0) ∧ au (makeY v n)):=by
 unfold makeE
 cases h : makeB v n with
 | false=>exact .inl ⟨rfl,rfl⟩
 | true =>
   refine .inr ⟨rfl,rfl,kH hv ?_⟩
   unfold makeB at h
   rw [Bool.and_eq_true] at h
   exact h.1
set_option maxHeartbeats 40000000 in
theorem tU (v : Viw) (b : List (El .u8)) (hv : OkV v) (h8 : au b) (hl : b.length ≤ 1000000000) (hB : baseB v = true) (hmk : ∀ W,OkV W → Api Tryz.prog 41 [bk v,bk W] (.tup [.vec .u8 (makeE v W).1,i64 (makeE v W).2])) (R : Viw × Int) (hR : takeY v b = R) : Api Tryz.prog 42 [bk v,.vec .u8 b] (.tup [bk R.1,i64 R.2]):=by
 have hr:=iI v hv
 have hno:=i7 v hv
 have hl2 : b.length ≤ 1000000000000:=by omega
 have hk:=Ep (v:=v) h8 hl hB
 have k1:=hk.p1;have k2:=hk.p2;have k3:=hk.p3;have k4:=hk.p4;have k5:=hk.p5;have k6:=hk.p6;have k7:=hk.p7;have k8:=hk.p8;have k9:=hk.p9;have k10:=hk.p10;have k11:=hk.p11
 have klc:=hk.lc;have klo:=hk.lo
 have hm:=hmk _ hk.ok
 have hme:=Aj (n:=fD (tkN v b)) hB
 clear hk hmk
 have hw:=wI v b
 rw [hR] at hw
 obtain ⟨-,w2,w3,w4,w5⟩:=hw
 replace w2:=w2 hB;replace w3:=w3 hB;replace w4:=w4 hB;replace w5:=w5 hB
 clear hR
 have b6 : 0 ≤ (tkN v b).w.1 ∧ (tkN v b).w.1 ≤ (B40 : Nat):=bt
 have b9 : 0 ≤ (tkN v b).nc.1 ∧ (tkN v b).nc.1 ≤ (B40 : Nat):=bt
 have b11 : 0 ≤ (tkN v b).no.1 ∧ (tkN v b).no.1 ≤ (B40 : Nat):=bt
 have g1 : Ev1 Tryz.prog 110 [.ptr 0 0] [(0,.box [.vec .u8 b,i64 0,.ff])] (i64 (tkN v b).t.1) [(0,.box (rdC b (tkN v b).t.2))]:=Ag b h8 hl2
 have g2 : Ev1 Tryz.prog 110 [.ptr 0 0] [(0,.box (rdC b (tkN v b).t.2))] (i64 (tkN v b).id.1) [(0,.box (rdC b (tkN v b).id.2))]:=bR b _ h8 hl2 k1
 have g3 : Ev1 Tryz.prog 110 [.ptr 0 0] [(0,.box (rdC b (tkN v b).id.2))] (i64 (tkN v b).x.1) [(0,.box (rdC b (tkN v b).x.2))]:=bR b _ h8 hl2 k2
 have g4 : Ev1 Tryz.prog 110 [.ptr 0 0] [(0,.box (rdC b (tkN v b).x.2))] (i64 (tkN v b).y.1) [(0,.box (rdC b (tkN v b).y.2))]:=bR b _ h8 hl2 k3
 have g5 : Ev1 Tryz.prog 111 [.ptr 0 0] [(0,.box (rdC b (tkN v b).y.2))] (.vec .slot (tkN v b).bag.1) [(0,.box (rdC b (tkN v b).bag.2))]:=pF b _ h8 hl2 k4
 have g6 : Ev1 Tryz.prog 110 [.ptr 0 0] [(0,.box (rdC b (tkN v b).bag.2))] (i64 (tkN v b).w.1) [(0,.box (rdC b (tkN v b).w.2))]:=bR b _ h8 hl2 k5
 have g7 : Ev1 Tryz.prog 110 [.ptr 0 0] [(0,.box (rdC b (tkN v b).w.2))] (i64 (tkN v b).ag.1) [(0,.box (rdC b (tkN v b).ag.2))]:=bR b _ h8 hl2 k6
 have g9:=pF b (tkN v b).ag.2 h8 hl2 k7
 have g10 : Ev1 Tryz.prog 110 [.ptr 0 0] [(0,.box (rdC b (tkN v b).off.2))] (i64 (tkN v b).nc.1) [(0,.box (rdC b (tkN v b).nc.2))]:=bR b _ h8 hl2 k8
 have g11 : Ev1 Tryz.prog 110 [.ptr 0 0] [(0,.box (rdC b (tkN v b).cs.2))] (i64 (tkN v b).no.1) [(0,.box (rdC b (tkN v b).no.2))]:=bR b _ h8 hl2 k10
 have hoff : ((tkN v b).w.1 - 1 = -1 ∧ (tkN v b).off = ([],(tkN v b).ag.2)) ∨ (¬ (tkN v b).w.1 - 1 = -1 ∧ (tkN v b).off = ao (dS b) 8 (tkN v b).ag.2):=by
   by_cases h : (tkN v b).w.1 - 1 = -1
   · exact .inl ⟨h,if_pos h⟩
   · exact .inr ⟨h,if_neg h⟩
 have ec : (tkN v b).cs = ao (cF b v) (tkN v b).nc.1.toNat (tkN v b).nc.2:=rfl
 have es : (tkN v b).os = ao (ck b) (tkN v b).no.1.toNat (tkN v b).no.2:=rfl
 have hW : fD (tkN v b) = ⟨(tkN v b).t.1,⟨(tkN v b).id.1,(tkN v b).x.1,(tkN v b).y.1,(tkN v b).bag.1,(tkN v b).w.1 - 1,(tkN v b).off.1,decide ((tkN v b).ag.1 = 1)⟩,(tkN v b).cs.1,(tkN v b).os.1⟩:=rfl
 rw [hW] at hm hme w4 w5
 clear hW
 generalize tkN v b = K at *
 obtain ⟨⟨t,tp,tb⟩,⟨id,ip,ib⟩,⟨x,xp,xb⟩,⟨y,yp,yb⟩,⟨bag,bp,bb⟩,⟨w,wp,wb⟩,⟨ag,ap,ab⟩,⟨off,op,ob⟩,⟨nc,np,nb⟩,⟨cs,cp,cb⟩,⟨no,mp,mb⟩,⟨os,sp,sb⟩⟩:=K
 dsimp only at *
 generalize makeE v ⟨t,⟨id,x,y,bag,w - 1,off,decide (ag = 1)⟩,cs,os⟩ = ME at *
 obtain ⟨MY,Me⟩:=ME
 dsimp only at hm hme
 change Ev1 _ _ _ _ _ [(0,.box [.vec .u8 b,i64 tp,bol tb])] at g1
 change Ev1 _ _ _ [(0,.box [.vec .u8 b,i64 tp,bol tb])] _ [(0,.box [.vec .u8 b,i64 ip,bol ib])] at g2
 change Ev1 _ _ _ [(0,.box [.vec .u8 b,i64 ip,bol ib])] _ [(0,.box [.vec .u8 b,i64 xp,bol xb])] at g3
 change Ev1 _ _ _ [(0,.box [.vec .u8 b,i64 xp,bol xb])] _ [(0,.box [.vec .u8 b,i64 yp,bol yb])] at g4
 change Ev1 _ _ _ [(0,.box [.vec .u8 b,i64 yp,bol yb])] _ [(0,.box [.vec .u8 b,i64 bp,bol bb])] at g5
 change Ev1 _ _ _ [(0,.box [.vec .u8 b,i64 bp,bol bb])] _ [(0,.box [.vec .u8 b,i64 wp,bol wb])] at g6
 change Ev1 _ _ _ [(0,.box [.vec .u8 b,i64 wp,bol wb])] _ [(0,.box [.vec .u8 b,i64 ap,bol ab])] at g7
 change Ev1 _ _ _ [(0,.box [.vec .u8 b,i64 op,bol ob])] _ [(0,.box [.vec .u8 b,i64 np,bol nb])] at g10
 change Ev1 _ _ _ [(0,.box [.vec .u8 b,i64 cp,bol cb])] _ [(0,.box [.vec .u8 b,i64 mp,bol mb])] at g11
 have hoff2 : (w - 1 = -1 ∧ off = [] ∧ op = ap ∧ ob = ab) ∨ (¬ w - 1 = -1 ∧ Ev1 Tryz.prog 111 [.ptr 0 0] [(0,.box [.vec .u8 b,i64 ap,bol ab])] (.vec .slot off) [(0,.box [.vec .u8 b,i64 op,bol ob])]):=by
   rcases hoff with ⟨h1,h2⟩|⟨h1,h2⟩
   · left
     obtain ⟨h3,h4⟩:=Prod.mk.inj h2
     obtain ⟨h4,h5⟩:=Rd.mk.inj h4
     exact ⟨h1,h3,h4,h5⟩
   · right
     rw [← h2] at g9
     exact ⟨h1,g9⟩
 clear hoff g9
 have b5 : 0 ≤ w ∧ w ≤ 1099511627776:=b6
 have hfin : (sb = true → R = (aE,120)) ∧ (¬ (sp : Int) = b.length → R = (aE,120)) ∧ (¬ Me = 0 → R = (aE,120)) ∧ (Me = 0 → ((strOfNums MY).toList == (strOfNums b).toList) = false → R = (aE,120)) ∧ (Me = 0 → ((strOfNums MY).toList == (strOfNums b).toList) = true → R = (⟨t,⟨id,x,y,bag,w - 1,off,decide (ag = 1)⟩,cs,os⟩,0)):=by
   refine ⟨w2,fun h=>w3 (by omega),fun h=>?_,fun h h2=>?_,fun h h2=>?_⟩
   · rcases hme with ⟨h1,h2⟩|⟨h1,h2,h3⟩
     · exact w4 fun hh=>by rw [h1] at hh;cases hh.1
     · exact absurd (congrArg Prod.snd h2) h
   · rcases hme with ⟨h1,h3⟩|⟨h1,h3,h4⟩
     · exact w4 fun hh=>by rw [h1] at hh;cases hh.1
     · refine w4 fun hh=>?_
       have h5:=congrArg Prod.fst h3
       dsimp only at h5
       rw [← h5] at h4 hh
       rw [iU h4 h8,hh.2,show eqL b b = true from decide_eq_true rfl] at h2
       cases h2
   · rcases hme with ⟨h1,h3⟩|⟨h1,h3,h4⟩
     · have h5 : Me = 113:=congrArg Prod.snd h3
       rw [h5] at h;cases h
     · have h5:=congrArg Prod.fst h3
       dsimp only at h5
       refine w5 h1 ?_
       rw [← h5] at h4 ⊢
       rw [iU h4 h8] at h2
       exact of_decide_eq_true h2
 clear w2 w3 w4 w5 hme
 obtain ⟨f1,f2,f3,f4,f5⟩:=hfin
 have f6 : Me = 0 → ¬ (strOfNums MY).toList = (strOfNums b).toList → R = (aE,120):=fun h h2=>f4 h (by rw [beq_eq_false_iff_ne];exact h2)
 have f7 : Me = 0 → (strOfNums MY).toList = (strOfNums b).toList → R = (⟨t,⟨id,x,y,bag,w - 1,off,decide (ag = 1)⟩,cs,os⟩,0):=fun h h2=>f5 h (by rw [beq_iff_eq];exact h2)
 clear f4 f5
 obtain ⟨G1,hG1⟩ : ∃ G,aV v = G:=⟨_,rfl⟩
 obtain ⟨G2,hG2⟩ : ∃ G,nothingB v = G:=⟨_,rfl⟩
 have hG:=Ai hB
 rw [hG1] at hr
 rw [hG2] at hno
 rw [hG1,hG2] at hG
 rcases hG with hg|⟨hg,hg2⟩
 all_goals
   first|(rw [hg] at hr;rw [hg2] at hno)|rw [hg] at hr
   rcases hoff2 with ⟨ho,ho1,ho2,ho3⟩|⟨ho,g9⟩
 all_goals
   first|(have hk9:=g9)|have g9:=g10
   try subst ho2 ho3
   refine Api.of_fin aa Tryz.func42 rfl (nt:=140) rfl rfl ?_
   ((repeat (first|(with_reducible refine af fun N hN hE hT=>?_)|(with_reducible refine ah fun N hN hE hT=>?_)));(try with_reducible refine ai fun X Y hX hY=>?_);(conv=>whnf))
   repeat' (first|exact trivial|((first|((first|refine hT _ _ ?_|refine hE _ _ _ ?_|refine hN _ _ ?_);clear hN hE hT)|((first|refine hX ?_|refine hY ?_);clear hX hY)|refine kL ?_|(refine ⟨fun hb=>?_,fun hb=>?_⟩<;>(try simp only [nrm] at hb)<;>(try (first|(exfalso;omega)|contradiction|exact kB hb)))|refine kE g1 [(0,48)] rfl ?_ (hrd:=⟨rfl,trivial⟩)|refine kF g1 [(0,48)] rfl ?_ (hrd:=⟨rfl,trivial⟩)|refine kE g2 [(0,48)] rfl ?_ (hrd:=⟨rfl,trivial⟩)|refine kF g2 [(0,48)] rfl ?_ (hrd:=⟨rfl,trivial⟩)|refine kE g3 [(0,48)] rfl ?_ (hrd:=⟨rfl,trivial⟩)|refine kF g3 [(0,48)] rfl ?_ (hrd:=⟨rfl,trivial⟩)|refine kE g4 [(0,48)] rfl ?_ (hrd:=⟨rfl,trivial⟩)|refine kF g4 [(0,48)] rfl ?_ (hrd:=⟨rfl,trivial⟩)|refine kE g5 [(0,48)] rfl ?_ (hrd:=⟨rfl,trivial⟩)|refine kF g5 [(0,48)] rfl ?_ (hrd:=⟨rfl,trivial⟩)|refine kE g6 [(0,48)] rfl ?_ (hrd:=⟨rfl,trivial⟩)|refine kF g6 [(0,48)] rfl ?_ (hrd:=⟨rfl,trivial⟩)|refine kE g7 [(0,48)] rfl ?_ (hrd:=⟨rfl,trivial⟩)|refine kF g7 [(0,48)] rfl ?_ (hrd:=⟨rfl,trivial⟩)|refine kE g9 [(0,48)] rfl ?_ (hrd:=⟨rfl,trivial⟩)|refine kF g9 [(0,48)] rfl ?_ (hrd:=⟨rfl,trivial⟩)|refine kE g10 [(0,48)] rfl ?_ (hrd:=⟨rfl,trivial⟩)|refine kF g10 [(0,48)] rfl ?_ (hrd:=⟨rfl,trivial⟩)|refine kA hr ?_|refine kD hr ?_|refine kA hno ?_|refine kD hno ?_|refine kW aa ?_|refine kC ?_|refine bdA ?_|refine bd2 ?_|refine bdR ?_|refine bdL ?_)<;>((repeat (first|(with_reducible refine af fun N hN hE hT=>?_)|(with_reducible refine ah fun N hN hE hT=>?_)));(try with_reducible refine ai fun X Y hX hY=>?_);(conv=>whnf)))|(refine And.intro ?_ ?_;rotate_left;(conv=>whnf);rotate_right))
   all_goals first|(exfalso;omega)|skip
   clear g1 g2 g3 g4 g5 g6 g7 g9 g10 hr hno
   refine aw.loopS aa (σ:=List (El .chunk) × Nat × Nat × Bool) [1,2,4,6,7,8] (fun (l,r,p,u)=>[.vec .u8 b,.ptr 4 0,.ptr 8 0,.ptr 48 0,.ptr 14 0,i64 r]) (fun (l,r,p,u)=>[(4,.box (bA v)),(8,.box (bA aE)),(48,.box [.vec .u8 b,i64 p,bol u]),(14,.box [i64 t,i64 id,i64 x,i64 y,.vec .slot bag,i64 (w - 1),.vec .slot off,bol (decide (ag = 1)),.own .chunk 350001 0 l.length none,.lit (.slice none 0 0)]),(350001,.row .chunk l)])
     (fun (l,r,p,u)=>p ≤ b.length ∧ r ≤ 1099511627776 ∧ l ++ (ao (cF b v) r ⟨p,u⟩).1 = cs ∧ (ao (cF b v) r ⟨p,u⟩).2 = ⟨cp,cb⟩) (fun (l,r,p,u)=>r) ([],nc.toNat,np,nb) ⟨k9,by show nc.toNat ≤ 1099511627776;have:=b9.2;have h40 : (B40 : Nat) = 1099511627776:=rfl;omega,(congrArg Prod.fst ec).symm,(congrArg Prod.snd ec).symm⟩ ?_ ?_
   · conv=>whnf
     repeat' (first|exact trivial|((first|((first|refine hT _ _ ?_|refine hE _ _ _ ?_|refine hN _ _ ?_);clear hN hE hT)|((first|refine hX ?_|refine hY ?_);clear hX hY)|refine kL ?_|(refine ⟨fun hb=>?_,fun hb=>?_⟩<;>(try simp only [nrm] at hb)<;>(try (first|(exfalso;omega)|contradiction|exact kB hb)))|refine kW aa ?_|refine kC ?_|refine bdA ?_|refine bd2 ?_|refine bdR ?_|refine bdL ?_)<;>((repeat (first|(with_reducible refine af fun N hN hE hT=>?_)|(with_reducible refine ah fun N hN hE hT=>?_)));(try with_reducible refine ai fun X Y hX hY=>?_);(conv=>whnf)))|(refine And.intro ?_ ?_;rotate_left;(conv=>whnf);rotate_right))
     all_goals first|rfl|exact List.take_length|exact List.take_of_length_le (by rw [List.drop_zero];omega)|(dsimp only;exact congrArg (Value.int _) (by omega))|exact congrArg (Value.int _) (by omega)|exact aB (t:=.chunk)|exact aB (t:=.seen)|exact ho1|(simp;done)|trace_state
   · rintro ⟨l,r,p,u⟩ ⟨i1,i2,i3,i4⟩
     try dsimp only at i1 i2 i3 i4
     by_cases hlive : 0 < r ∧ u = false
     · obtain ⟨hr0,rfl⟩:=hlive
       obtain ⟨r,rfl⟩ : ∃ r' : Nat,r = r' + 1:=⟨r - 1,by omega⟩
       rw [dH rfl] at i3 i4
       have hll : l.length + 1 ≤ b.length + 1:=by
         have h1:=congrArg List.length i3
         simp only [List.length_append,List.length_cons] at h1
         omega
       have q1:=xo v b ⟨p,false⟩ hv hB h8 hl2 i1
       have q2 : (cF b v ⟨p,false⟩).2.pos ≤ b.length:=((l7 h8).le _ i1).2
       generalize cF b v ⟨p,false⟩ = C at *
       obtain ⟨c,zp',zb'⟩:=C
       dsimp only at *
       change Ev1 _ _ _ [(0,.box [.vec .u8 b,i64 p,bol false])] _ [(0,.box [.vec .u8 b,i64 zp',bol zb'])] at q1
       conv=>whnf
       repeat' (first|exact trivial|((first|((first|refine hT _ _ ?_|refine hE _ _ _ ?_|refine hN _ _ ?_);clear hN hE hT)|((first|refine hX ?_|refine hY ?_);clear hX hY)|refine kL ?_|(refine ⟨fun hb=>?_,fun hb=>?_⟩<;>(try simp only [nrm] at hb)<;>(try (first|(exfalso;omega)|contradiction|exact kB hb)))|refine kE q1 [(0,48)] rfl ?_ (hrd:=⟨rfl,trivial⟩)|refine kF q1 [(0,48)] rfl ?_ (hrd:=⟨rfl,trivial⟩)|refine kW aa ?_|refine kC ?_|refine bdA ?_|refine bd2 ?_|refine bdR ?_|refine bdL ?_)<;>((repeat (first|(with_reducible refine af fun N hN hE hT=>?_)|(with_reducible refine ah fun N hN hE hT=>?_)));(try with_reducible refine ai fun X Y hX hY=>?_);(conv=>whnf)))|(refine And.intro ?_ ?_;rotate_left;(conv=>whnf);rotate_right))
       refine .to (l ++ [c],r,zp',zb') ⟨q2,(by first|omega|(dsimp only;omega)),by rw [List.append_assoc];exact i3,i4⟩ (by first|omega|(dsimp only;omega)) ?_
       conv=>whnf
       repeat' (first|exact trivial|((first|((first|refine hT _ _ ?_|refine hE _ _ _ ?_|refine hN _ _ ?_);clear hN hE hT)|((first|refine hX ?_|refine hY ?_);clear hX hY)|refine kL ?_|(refine ⟨fun hb=>?_,fun hb=>?_⟩<;>(try simp only [nrm] at hb)<;>(try (first|(exfalso;omega)|contradiction|exact kB hb)))|refine kW aa ?_|refine kC ?_|refine bdA ?_|refine bd2 ?_|refine bdR ?_|refine bdL ?_)<;>((repeat (first|(with_reducible refine af fun N hN hE hT=>?_)|(with_reducible refine ah fun N hN hE hT=>?_)));(try with_reducible refine ai fun X Y hX hY=>?_);(conv=>whnf)))|(refine And.intro ?_ ?_;rotate_left;(conv=>whnf);rotate_right))
       all_goals first|rfl|exact List.take_length|exact List.take_of_length_le (by rw [List.drop_zero];omega)|(dsimp only;exact congrArg (Value.int _) (by omega))|exact congrArg (Value.int _) (by omega)|exact aB (t:=.chunk)|exact aB (t:=.seen)|exact ho1|(simp;done)|trace_state
     · rw [ij hlive] at i3 i4
       obtain rfl : cs = l:=by rw [← i3];simp
       obtain ⟨d2,d3⟩:=Rd.mk.inj i4
       obtain rfl : cp = p:=d2.symm
       obtain rfl : cb = u:=d3.symm
       clear i3 i4 d2 d3
       conv=>whnf
       repeat' (first|exact trivial|((first|((first|refine hT _ _ ?_|refine hE _ _ _ ?_|refine hN _ _ ?_);clear hN hE hT)|((first|refine hX ?_|refine hY ?_);clear hX hY)|refine kL ?_|(refine ⟨fun hb=>?_,fun hb=>?_⟩<;>(try simp only [nrm] at hb)<;>(try (first|(exfalso;omega)|contradiction|exact kB hb)))|refine kE g11 [(0,48)] rfl ?_ (hrd:=⟨rfl,trivial⟩)|refine kF g11 [(0,48)] rfl ?_ (hrd:=⟨rfl,trivial⟩)|refine kW aa ?_|refine kC ?_|refine bdA ?_|refine bd2 ?_|refine bdR ?_|refine bdL ?_)<;>((repeat (first|(with_reducible refine af fun N hN hE hT=>?_)|(with_reducible refine ah fun N hN hE hT=>?_)));(try with_reducible refine ai fun X Y hX hY=>?_);(conv=>whnf)))|(refine And.intro ?_ ?_;rotate_left;(conv=>whnf);rotate_right))
       all_goals (try (exact absurd ⟨by omega,by simpa using hb⟩ hlive))
       all_goals
         refine aw.loopS aa (σ:=List (El .seen) × Nat × Nat × Bool × Bool) [1,2,4,6,7,9] (fun (l,r,p,u,fin)=>[.vec .u8 b,.ptr 4 0,.ptr 8 0,.ptr 48 0,.ptr 14 0,i64 r]) (fun (l,r,p,u,fin)=>match fin with|false=>[(4,.box (bA v)),(8,.box (bA aE)),(48,.box [.vec .u8 b,i64 p,bol u]),(14,.box [i64 t,i64 id,i64 x,i64 y,.vec .slot bag,i64 (w - 1),.vec .slot off,bol (decide (ag = 1)),.vec .chunk cs,.own .seen 350003 0 l.length none]),(350003,.row .seen l)]|true=>[(4,.box (bA v)),(8,.box (bA aE)),(48,.box [.vec .u8 b,i64 p,bol u]),(14,.box [i64 t,i64 id,i64 x,i64 y,.vec .slot bag,i64 (w - 1),.vec .slot off,bol (decide (ag = 1)),.vec .chunk cs,.vec .seen l])])
           (fun (l,r,p,u,fin)=>p ≤ b.length ∧ r ≤ 1099511627776 ∧ l ++ (ao (ck b) r ⟨p,u⟩).1 = os ∧ (ao (ck b) r ⟨p,u⟩).2 = ⟨sp,sb⟩ ∧ (fin = true ↔ ¬ (0 < r ∧ u = false))) (fun (l,r,p,u,fin)=>r) ([],no.toNat,mp,mb,decide (¬ (0 < no.toNat ∧ mb = false))) ⟨k11,by show no.toNat ≤ 1099511627776;have:=b11.2;have h40 : (B40 : Nat) = 1099511627776:=rfl;omega,(congrArg Prod.fst es).symm,(congrArg Prod.snd es).symm,decide_eq_true_iff⟩ ?_ ?_
         · have h40 : (B40 : Nat) = 1099511627776:=rfl
           have b12:=b11.1
           generalize decide (¬ (0 < no.toNat ∧ mb = false)) = FIN
           cases FIN
           all_goals
             conv=>whnf
             repeat' (first|exact trivial|((first|((first|refine hT _ _ ?_|refine hE _ _ _ ?_|refine hN _ _ ?_);clear hN hE hT)|((first|refine hX ?_|refine hY ?_);clear hX hY)|refine kL ?_|(refine ⟨fun hb=>?_,fun hb=>?_⟩<;>(try simp only [nrm] at hb)<;>(try (first|(exfalso;omega)|contradiction|exact kB hb)))|refine kW aa ?_|refine kC ?_|refine bdA ?_|refine bd2 ?_|refine bdR ?_|refine bdL ?_)<;>((repeat (first|(with_reducible refine af fun N hN hE hT=>?_)|(with_reducible refine ah fun N hN hE hT=>?_)));(try with_reducible refine ai fun X Y hX hY=>?_);(conv=>whnf)))|(refine And.intro ?_ ?_;rotate_left;(conv=>whnf);rotate_right))
           all_goals first|rfl|exact List.take_length|exact List.take_of_length_le (by rw [List.drop_zero];omega)|(dsimp only;exact congrArg (Value.int _) (by omega))|exact congrArg (Value.int _) (by omega)|exact aB (t:=.chunk)|exact aB (t:=.seen)|exact ho1|(simp;done)|trace_state
         · rintro ⟨l,r,p,u,fin⟩ ⟨i1,i2,i3,i4,i5⟩
           try dsimp only at i1 i2 i3 i4 i5
           cases fin with
           | true =>
             have hdead:=i5.1 rfl
             rw [ij hdead] at i3 i4
             obtain rfl : os = l:=by rw [← i3];simp
             obtain ⟨d2,d3⟩:=Rd.mk.inj i4
             obtain rfl : sp = p:=d2.symm
             obtain rfl : sb = u:=d3.symm
             clear i3 i4 i5 d2 d3
             conv=>whnf
             repeat' (first|exact trivial|((first|((first|refine hT _ _ ?_|refine hE _ _ _ ?_|refine hN _ _ ?_);clear hN hE hT)|((first|refine hX ?_|refine hY ?_);clear hX hY)|refine kL ?_|(refine ⟨fun hb=>?_,fun hb=>?_⟩<;>(try simp only [nrm] at hb)<;>(try (first|(exfalso;omega)|contradiction|exact kB hb)))|refine kA hm ?_|refine kD hm ?_|refine kW aa ?_|refine kC ?_|refine bdA ?_|refine bd2 ?_|refine bdR ?_|refine bdL ?_)<;>((repeat (first|(with_reducible refine af fun N hN hE hT=>?_)|(with_reducible refine ah fun N hN hE hT=>?_)));(try with_reducible refine ai fun X Y hX hY=>?_);(conv=>whnf)))|(refine And.intro ?_ ?_;rotate_left;(conv=>whnf);rotate_right))
             all_goals (try (exact absurd ⟨by omega,by simpa using hb⟩ hdead))
             all_goals first|(rw [f1 (by assumption)];first|done|rfl)|(rw [f2 (by assumption)];first|done|rfl)|(rw [f3 (by assumption)];first|done|rfl)|(rw [f6 (by assumption) (by assumption)];first|done|rfl)|(rw [f7 (by assumption) (by assumption)];first|done|rfl)|trace_state
           | false =>
             have hlive2 : 0 < r ∧ u = false:=by
               by_cases h : 0 < r ∧ u = false
               · exact h
               · exact absurd (i5.2 h) (by simp)
             obtain ⟨hr0,rfl⟩:=hlive2
             obtain ⟨r,rfl⟩ : ∃ r' : Nat,r = r' + 1:=⟨r - 1,by omega⟩
             rw [dH rfl] at i3 i4
             have hll : l.length + 1 ≤ b.length + 1:=by
               have h1:=congrArg List.length i3
               simp only [List.length_append,List.length_cons] at h1
               omega
             have g5 : ck b ⟨p,false⟩ = (⟨(ac b B40 ⟨p,false⟩).1,(ac b B40 (ac b B40 ⟨p,false⟩).2).1,(ac b B40 (ac b B40 (ac b B40 ⟨p,false⟩).2).2).1⟩,(ac b B40 (ac b B40 (ac b B40 ⟨p,false⟩).2).2).2):=rfl
             rw [g5] at i3 i4
             clear g5
             have k1:=bR b ⟨p,false⟩ h8 hl2 i1
             have q1 : (ac b B40 ⟨p,false⟩).2.pos ≤ b.length:=av h8 i1
             generalize ac b B40 ⟨p,false⟩ = C1 at *
             have k2:=bR b C1.2 h8 hl2 q1
             have q2 : (ac b B40 C1.2).2.pos ≤ b.length:=av h8 q1
             generalize ac b B40 C1.2 = C2 at *
             have k3:=bR b C2.2 h8 hl2 q2
             have q3 : (ac b B40 C2.2).2.pos ≤ b.length:=av h8 q2
             generalize ac b B40 C2.2 = C3 at *
             obtain ⟨c1,cp1,cb1⟩:=C1
             obtain ⟨c2,cp2,cb2⟩:=C2
             obtain ⟨c3,cp3,cb3⟩:=C3
             dsimp only at *
             change Ev1 _ _ _ [(0,.box [.vec .u8 b,i64 p,bol false])] _ [(0,.box [.vec .u8 b,i64 cp1,bol cb1])] at k1
             change Ev1 _ _ _ [(0,.box [.vec .u8 b,i64 cp1,bol cb1])] _ [(0,.box [.vec .u8 b,i64 cp2,bol cb2])] at k2
             change Ev1 _ _ _ [(0,.box [.vec .u8 b,i64 cp2,bol cb2])] _ [(0,.box [.vec .u8 b,i64 cp3,bol cb3])] at k3
             by_cases hfin : 0 < r ∧ cb3 = false
             · conv=>whnf
               repeat' (first|exact trivial|((first|((first|refine hT _ _ ?_|refine hE _ _ _ ?_|refine hN _ _ ?_);clear hN hE hT)|((first|refine hX ?_|refine hY ?_);clear hX hY)|refine kL ?_|(refine ⟨fun hb=>?_,fun hb=>?_⟩<;>(try simp only [nrm] at hb)<;>(try (first|(exfalso;omega)|contradiction|exact kB hb)))|refine kE k1 [(0,48)] rfl ?_ (hrd:=⟨rfl,trivial⟩)|refine kF k1 [(0,48)] rfl ?_ (hrd:=⟨rfl,trivial⟩)|refine kE k2 [(0,48)] rfl ?_ (hrd:=⟨rfl,trivial⟩)|refine kF k2 [(0,48)] rfl ?_ (hrd:=⟨rfl,trivial⟩)|refine kE k3 [(0,48)] rfl ?_ (hrd:=⟨rfl,trivial⟩)|refine kF k3 [(0,48)] rfl ?_ (hrd:=⟨rfl,trivial⟩)|refine kW aa ?_|refine kC ?_|refine bdA ?_|refine bd2 ?_|refine bdR ?_|refine bdL ?_)<;>((repeat (first|(with_reducible refine af fun N hN hE hT=>?_)|(with_reducible refine ah fun N hN hE hT=>?_)));(try with_reducible refine ai fun X Y hX hY=>?_);(conv=>whnf)))|(refine And.intro ?_ ?_;rotate_left;(conv=>whnf);rotate_right))
               refine .to (l ++ [⟨c1,c2,c3⟩],r,cp3,cb3,false) ⟨q3,(by first|omega|(dsimp only;omega)),by rw [List.append_assoc];exact i3,i4,by simp [hfin]⟩ (by first|omega|(dsimp only;omega)) ?_
               conv=>whnf
               repeat' (first|exact trivial|((first|((first|refine hT _ _ ?_|refine hE _ _ _ ?_|refine hN _ _ ?_);clear hN hE hT)|((first|refine hX ?_|refine hY ?_);clear hX hY)|refine kL ?_|(refine ⟨fun hb=>?_,fun hb=>?_⟩<;>(try simp only [nrm] at hb)<;>(try (first|(exfalso;omega)|contradiction|exact kB hb)))|refine kW aa ?_|refine kC ?_|refine bdA ?_|refine bd2 ?_|refine bdR ?_|refine bdL ?_)<;>((repeat (first|(with_reducible refine af fun N hN hE hT=>?_)|(with_reducible refine ah fun N hN hE hT=>?_)));(try with_reducible refine ai fun X Y hX hY=>?_);(conv=>whnf)))|(refine And.intro ?_ ?_;rotate_left;(conv=>whnf);rotate_right))
               all_goals first|rfl|exact List.take_length|exact List.take_of_length_le (by rw [List.drop_zero];omega)|(dsimp only;exact congrArg (Value.int _) (by omega))|exact congrArg (Value.int _) (by omega)|exact aB (t:=.chunk)|exact aB (t:=.seen)|exact ho1|(simp;done)|trace_state
             · conv=>whnf
               repeat' (first|exact trivial|((first|((first|refine hT _ _ ?_|refine hE _ _ _ ?_|refine hN _ _ ?_);clear hN hE hT)|((first|refine hX ?_|refine hY ?_);clear hX hY)|refine kL ?_|(refine ⟨fun hb=>?_,fun hb=>?_⟩<;>(try simp only [nrm] at hb)<;>(try (first|(exfalso;omega)|contradiction|exact kB hb)))|refine kE k1 [(0,48)] rfl ?_ (hrd:=⟨rfl,trivial⟩)|refine kF k1 [(0,48)] rfl ?_ (hrd:=⟨rfl,trivial⟩)|refine kE k2 [(0,48)] rfl ?_ (hrd:=⟨rfl,trivial⟩)|refine kF k2 [(0,48)] rfl ?_ (hrd:=⟨rfl,trivial⟩)|refine kE k3 [(0,48)] rfl ?_ (hrd:=⟨rfl,trivial⟩)|refine kF k3 [(0,48)] rfl ?_ (hrd:=⟨rfl,trivial⟩)|refine kW aa ?_|refine kC ?_|refine bdA ?_|refine bd2 ?_|refine bdR ?_|refine bdL ?_)<;>((repeat (first|(with_reducible refine af fun N hN hE hT=>?_)|(with_reducible refine ah fun N hN hE hT=>?_)));(try with_reducible refine ai fun X Y hX hY=>?_);(conv=>whnf)))|(refine And.intro ?_ ?_;rotate_left;(conv=>whnf);rotate_right))
               refine .to (l ++ [⟨c1,c2,c3⟩],r,cp3,cb3,true) ⟨q3,(by first|omega|(dsimp only;omega)),by rw [List.append_assoc];exact i3,i4,by simp only [true_iff];exact hfin⟩ (by first|omega|(dsimp only;omega)) ?_
               conv=>whnf
               repeat' (first|exact trivial|((first|((first|refine hT _ _ ?_|refine hE _ _ _ ?_|refine hN _ _ ?_);clear hN hE hT)|((first|refine hX ?_|refine hY ?_);clear hX hY)|refine kL ?_|(refine ⟨fun hb=>?_,fun hb=>?_⟩<;>(try simp only [nrm] at hb)<;>(try (first|(exfalso;omega)|contradiction|exact kB hb)))|refine kW aa ?_|refine kC ?_|refine bdA ?_|refine bd2 ?_|refine bdR ?_|refine bdL ?_)<;>((repeat (first|(with_reducible refine af fun N hN hE hT=>?_)|(with_reducible refine ah fun N hN hE hT=>?_)));(try with_reducible refine ai fun X Y hX hY=>?_);(conv=>whnf)))|(refine And.intro ?_ ?_;rotate_left;(conv=>whnf);rotate_right))
               all_goals first|rfl|exact List.take_length|exact List.take_of_length_le (by rw [List.drop_zero];omega)|(dsimp only;exact congrArg (Value.int _) (by omega))|exact congrArg (Value.int _) (by omega)|exact aB (t:=.chunk)|exact aB (t:=.seen)|exact ho1|(simp;done)|trace_state
end Go.Proofs.YtaecchphjploaaaGreat
