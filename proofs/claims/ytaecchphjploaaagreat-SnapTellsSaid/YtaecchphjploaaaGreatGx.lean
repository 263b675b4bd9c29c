/- homesteadref13.Put, Set; homesteadref19.Right. -/
import Derived.Test.YtaecchphjploaaaGreatGw
import Derived.Test.YtaecchphjploaaaGreatGl
set_option linter.unusedSimpArgs false
set_option linter.unusedVariables false
set_option maxRecDepth 100000
set_option maxHeartbeats 16000000
namespace Go.Proofs.YtaecchphjploaaaGreat
open Go Go.RowKit Eng
theorem uf {α : Type} {L : List α} {p q a b : α} (h1 : a = p) (h2 : b = q) : List.take (L.length + (List.take 1 (List.drop 0 [a])).length + (List.take 1 (List.drop 0 [b])).length) (List.take (L.length + (List.take 1 (List.drop 0 [a])).length) (List.take L.length L ++ List.take 1 (List.drop 0 [a])) ++ List.take 1 (List.drop 0 [b])) = L ++ [p] ++ [q]:=by
 subst h1 h2
 rw [List.take_length]
 show List.take (L.length + 1 + 1) (List.take (L.length + 1) (L ++ [a]) ++ [b]) = L ++ [a] ++ [b]
 rw [List.take_of_length_le (l:=L ++ [a]) (by simp),List.take_of_length_le (by simp)]
abbrev Cx (p : Player) (d : Bool) : Blk:=match d with
 | true=>.box [i64 p.id,i64 p.x,i64 p.y,.top,i64 p.wth,.top,bol p.agrees]
 | false=>.box [i64 p.id,i64 p.x,i64 p.y,.own .slot 95 0 p.bag.length none,i64 p.wth,.own .slot 103 0 p.offer.length none,bol p.agrees]
abbrev F6 (w : Wld) (p : Player) (L : List Player) (d : Bool) : Mem:=match d with
 | true=>[(6,Cx p true),(8,.box pc),(12,.box (dw w)),(150101,.row .player L)]
 | false=>[(6,Cx p false),(8,.box pc),(12,.box (dw w)),(150101,.row .player L),(95,.row .slot p.bag),(103,.row .slot p.offer)]
theorem Aq (w : Wld) (p : Player) (hw : OkW w) (hp : OkP p) : Api Tryz.prog 25 [eK w,cN p] (.tup [eK (bF w p).1,i64 (bF w p).2]):=by
 have hrt:=oE w hw
 have hcp:=nA w hw
 have hpl:=pG p hp
 have hgp:=tV w p.id hw
 have hb1:=hp.nb
 have hb2:=hp.no
 cases hR : cd w with
 | false =>
   rw [hR] at hrt
   have hs : bF w p = (w,113):=by unfold bF;rw [if_pos hR]
   rw [hs]
   refine Api.of_fin aa Tryz.func25 rfl (nt:=102) rfl rfl ?_
   ((try with_reducible refine af fun N hN hE hT=>?_);(conv=>whnf))
   repeat' (first|exact trivial|((first|((first|refine hT _ _ ?_|refine hE _ _ _ ?_|refine hN _ _ ?_);clear hN hE hT)|refine kL ?_|(refine ⟨fun hb=>?_,fun hb=>?_⟩<;>(try simp only [nrm] at hb)<;>(try (first|(exfalso;omega)|contradiction|exact kB hb)))|refine kA hrt ?_|refine kD hrt ?_|refine kA hcp ?_|refine kD hcp ?_|refine kW aa ?_|refine kC ?_|refine bdA ?_|refine bd2 ?_|refine bdR ?_|refine bdL ?_)<;>((try with_reducible refine af fun N hN hE hT=>?_);(conv=>whnf)))|(refine And.intro ?_ ?_;rotate_left;(conv=>whnf);rotate_right))
   all_goals first|rfl|trace_state
 | true =>
   rw [hR] at hrt
   have hRW:=cL.1 hR
   have hsz:=hRW.size
   have hth:=oD w p ⟨hsz.1,hsz.2.1⟩
   cases hS : bN p with
   | false =>
     rw [hS] at hpl
     have hs : bF w p = (w,110):=by unfold bF;rw [if_neg (by rw [hR];simp),if_pos (.inl hS)]
     rw [hs]
     refine Api.of_fin aa Tryz.func25 rfl (nt:=102) rfl rfl ?_
     ((try with_reducible refine af fun N hN hE hT=>?_);(conv=>whnf))
     repeat' (first|exact trivial|((first|((first|refine hT _ _ ?_|refine hE _ _ _ ?_|refine hN _ _ ?_);clear hN hE hT)|refine kL ?_|(refine ⟨fun hb=>?_,fun hb=>?_⟩<;>(try simp only [nrm] at hb)<;>(try (first|(exfalso;omega)|contradiction|exact kB hb)))|refine kA hrt ?_|refine kD hrt ?_|refine kA hcp ?_|refine kD hcp ?_|refine kA hpl ?_|refine kD hpl ?_|refine kW aa ?_|refine kC ?_|refine bdA ?_|refine bd2 ?_|refine bdR ?_|refine bdL ?_)<;>((try with_reducible refine af fun N hN hE hT=>?_);(conv=>whnf)))|(refine And.intro ?_ ?_;rotate_left;(conv=>whnf);rotate_right))
     all_goals first|rfl|trace_state
   | true =>
     rw [hS] at hpl
     cases hI : bB w.size p.x p.y with
     | false =>
       rw [hI] at hth
       have hs : bF w p = (w,110):=by unfold bF;rw [if_neg (by rw [hR];simp),if_pos (.inr hI)]
       rw [hs]
       refine Api.of_fin aa Tryz.func25 rfl (nt:=102) rfl rfl ?_
       ((try with_reducible refine af fun N hN hE hT=>?_);(conv=>whnf))
       repeat' (first|exact trivial|((first|((first|refine hT _ _ ?_|refine hE _ _ _ ?_|refine hN _ _ ?_);clear hN hE hT)|refine kL ?_|(refine ⟨fun hb=>?_,fun hb=>?_⟩<;>(try simp only [nrm] at hb)<;>(try (first|(exfalso;omega)|contradiction|exact kB hb)))|refine kA hrt ?_|refine kD hrt ?_|refine kA hcp ?_|refine kD hcp ?_|refine kA hpl ?_|refine kD hpl ?_|refine kA hth ?_|refine kD hth ?_|refine kW aa ?_|refine kC ?_|refine bdA ?_|refine bd2 ?_|refine bdR ?_|refine bdL ?_)<;>((try with_reducible refine af fun N hN hE hT=>?_);(conv=>whnf)))|(refine And.intro ?_ ?_;rotate_left;(conv=>whnf);rotate_right))
       all_goals first|rfl|trace_state
     | true =>
       rw [hI] at hth
       have e : aJ w p.id = match aY pid w.players p.id with|some p=>(p,true)|none=>(lB,false):=by
         unfold aJ;rw [if_neg (by rw [hR];simp)];rfl
       have e2 : (aJ w p.id).2 = (aY pid w.players p.id).isSome:=by rw [e];cases aY pid w.players p.id<;>rfl
       rw [e2] at hgp
       generalize (aJ w p.id).1 = Z at *
       by_cases hF : (aY pid w.players p.id).isSome = false ∧ 32 ≤ w.players.length
       · have hs : bF w p = (w,3):=by unfold bF;rw [if_neg (by rw [hR];simp),if_neg (by rw [hS,hI];simp),if_neg (by rw [hF.1];simp),if_pos hF.2]
         rw [hs]
         rw [hF.1] at hgp
         have hF2:=hF.2
         refine Api.of_fin aa Tryz.func25 rfl (nt:=102) rfl rfl ?_
         ((try with_reducible refine af fun N hN hE hT=>?_);(conv=>whnf))
         repeat' (first|exact trivial|((first|((first|refine hT _ _ ?_|refine hE _ _ _ ?_|refine hN _ _ ?_);clear hN hE hT)|refine kL ?_|(refine ⟨fun hb=>?_,fun hb=>?_⟩<;>(try simp only [nrm] at hb)<;>(try (first|(exfalso;omega)|contradiction|exact kB hb)))|refine kA hrt ?_|refine kD hrt ?_|refine kA hcp ?_|refine kD hcp ?_|refine kA hpl ?_|refine kD hpl ?_|refine kA hth ?_|refine kD hth ?_|refine kA hgp ?_|refine kD hgp ?_|refine kW aa ?_|refine kC ?_|refine bdA ?_|refine bd2 ?_|refine bdR ?_|refine bdL ?_)<;>((try with_reducible refine af fun N hN hE hT=>?_);(conv=>whnf)))|(refine And.intro ?_ ?_;rotate_left;(conv=>whnf);rotate_right))
         all_goals first|rfl|omega|trace_state
       · have ho : pb w p:=⟨hRW,hS,hI,by
           cases hg : (aY pid w.players p.id).isSome with
           | true=>exact .inl rfl
           | false=>exact .inr (by rw [hg] at hF;simp at hF;omega)⟩
         rw [ri ho,← tN hRW.rp]
         unfold gE
         dsimp only
         cases hg : (aY pid w.players p.id).isSome
         all_goals
           rw [hg] at hgp
           have hlen : (aY pid w.players p.id).isSome = false → w.players.length < 32:=fun h=>by rw [h] at hF;simp at hF;omega
           rw [hg] at hlen
           first|(have hlen2:=hlen rfl)|skip
           refine Api.of_fin aa Tryz.func25 rfl (nt:=102) rfl rfl ?_
           ((try with_reducible refine af fun N hN hE hT=>?_);(conv=>whnf))
           repeat' (first|exact trivial|((first|((first|refine hT _ _ ?_|refine hE _ _ _ ?_|refine hN _ _ ?_);clear hN hE hT)|refine kL ?_|(refine ⟨fun hb=>?_,fun hb=>?_⟩<;>(try simp only [nrm] at hb)<;>(try (first|(exfalso;omega)|contradiction|exact kB hb)))|refine kA hrt ?_|refine kD hrt ?_|refine kA hcp ?_|refine kD hcp ?_|refine kA hpl ?_|refine kD hpl ?_|refine kA hth ?_|refine kD hth ?_|refine kA hgp ?_|refine kD hgp ?_|refine kW aa ?_|refine kC ?_|refine bdA ?_|refine bd2 ?_|refine bdR ?_|refine bdL ?_)<;>((try with_reducible refine af fun N hN hE hT=>?_);(conv=>whnf)))|(refine And.intro ?_ ?_;rotate_left;(conv=>whnf);rotate_right))
           refine aw.loopS aa (σ:=Nat × Bool × List Player) [3,4,6,9,10,11] (fun (k,d,L)=>[.ptr 6 0,.ptr 8 0,.ptr 12 0,.own .player 150101 0 L.length none,bol d,i64 k]) (fun (k,d,L)=>F6 w p L d)
             (fun (k,d,L)=>k ≤ w.players.length ∧ L ++ iG p (w.players.drop k) d = iG p w.players false ∧ L.length ≤ k + d.toNat) (fun (k,_,_)=>w.players.length - k) (0,false,[]) ⟨by omega,rfl,by simp⟩ ?_ ?_
           · conv=>whnf
             repeat' (first|exact trivial|((first|((first|refine hT _ _ ?_|refine hE _ _ _ ?_|refine hN _ _ ?_);clear hN hE hT)|refine kL ?_|(refine ⟨fun hb=>?_,fun hb=>?_⟩<;>(try simp only [nrm] at hb)<;>(try (first|(exfalso;omega)|contradiction|exact kB hb)))|refine kW aa ?_|refine kC ?_|refine bdA ?_|refine bd2 ?_|refine bdR ?_|refine bdL ?_)<;>((try with_reducible refine af fun N hN hE hT=>?_);(conv=>whnf)))|(refine And.intro ?_ ?_;rotate_left;(conv=>whnf);rotate_right))
             all_goals first|rfl|(simp;done)|trace_state
           · rintro ⟨k,d,L⟩ ⟨hk,hL,hLl⟩
             try dsimp only at hk hL hLl
             by_cases hlt : k < w.players.length
             · rw [bJ (t:=.player) hlt] at hL
               have q0 : (elt .player w.players (k : Int).toNat).id = (elt .player w.players k).id:=rfl
               cases d with
               | true =>
                 simp only [Bool.toNat_true] at hLl
                 rw [js,if_neg (show ¬ (true = false ∧ p.id ≤ (elt .player w.players k).id) by simp),Bool.true_or,List.nil_append] at hL
                 by_cases h2 : (elt .player w.players k).id = p.id
                 · rw [if_pos h2,List.nil_append] at hL
                   conv=>whnf
                   repeat' (first|exact trivial|((first|((first|refine hT _ _ ?_|refine hE _ _ _ ?_|refine hN _ _ ?_);clear hN hE hT)|refine kL ?_|(refine ⟨fun hb=>?_,fun hb=>?_⟩<;>(try simp only [nrm] at hb)<;>(try (first|(exfalso;omega)|contradiction|exact kB hb)))|refine kW aa ?_|refine kC ?_|refine bdA ?_|refine bd2 ?_|refine bdR ?_|refine bdL ?_)<;>((try with_reducible refine af fun N hN hE hT=>?_);(conv=>whnf)))|(refine And.intro ?_ ?_;rotate_left;(conv=>whnf);rotate_right))
                   refine .to (k + 1,true,L) ⟨hlt,hL,by simp;omega⟩ (by first|omega|(dsimp only;omega)) ?_
                   conv=>whnf
                   repeat' (first|exact trivial|((first|((first|refine hT _ _ ?_|refine hE _ _ _ ?_|refine hN _ _ ?_);clear hN hE hT)|refine kL ?_|(refine ⟨fun hb=>?_,fun hb=>?_⟩<;>(try simp only [nrm] at hb)<;>(try (first|(exfalso;omega)|contradiction|exact kB hb)))|refine kW aa ?_|refine kC ?_|refine bdA ?_|refine bd2 ?_|refine bdR ?_|refine bdL ?_)<;>((try with_reducible refine af fun N hN hE hT=>?_);(conv=>whnf)))|(refine And.intro ?_ ?_;rotate_left;(conv=>whnf);rotate_right))
                   all_goals first|rfl|exact List.take_length|exact iH rfl|exact uf (by simp only [List.drop_zero,List.take_length]) rfl|(simp;done)|trace_state
                 · rw [if_neg h2] at hL
                   conv=>whnf
                   repeat' (first|exact trivial|((first|((first|refine hT _ _ ?_|refine hE _ _ _ ?_|refine hN _ _ ?_);clear hN hE hT)|refine kL ?_|(refine ⟨fun hb=>?_,fun hb=>?_⟩<;>(try simp only [nrm] at hb)<;>(try (first|(exfalso;omega)|contradiction|exact kB hb)))|refine kW aa ?_|refine kC ?_|refine bdA ?_|refine bd2 ?_|refine bdR ?_|refine bdL ?_)<;>((try with_reducible refine af fun N hN hE hT=>?_);(conv=>whnf)))|(refine And.intro ?_ ?_;rotate_left;(conv=>whnf);rotate_right))
                   refine .to (k + 1,true,L ++ [elt .player w.players k]) ⟨hlt,by rw [← hL];simp,by simp;omega⟩ (by first|omega|(dsimp only;omega)) ?_
                   conv=>whnf
                   repeat' (first|exact trivial|((first|((first|refine hT _ _ ?_|refine hE _ _ _ ?_|refine hN _ _ ?_);clear hN hE hT)|refine kL ?_|(refine ⟨fun hb=>?_,fun hb=>?_⟩<;>(try simp only [nrm] at hb)<;>(try (first|(exfalso;omega)|contradiction|exact kB hb)))|refine kW aa ?_|refine kC ?_|refine bdA ?_|refine bd2 ?_|refine bdR ?_|refine bdL ?_)<;>((try with_reducible refine af fun N hN hE hT=>?_);(conv=>whnf)))|(refine And.intro ?_ ?_;rotate_left;(conv=>whnf);rotate_right))
                   all_goals first|rfl|exact List.take_length|exact iH rfl|exact uf (by simp only [List.drop_zero,List.take_length]) rfl|(simp;done)|trace_state
               | false =>
                 simp only [Bool.toNat_false] at hLl
                 by_cases h1 : (elt .player w.players k).id < p.id
                 · rw [yA h1] at hL
                   conv=>whnf
                   repeat' (first|exact trivial|((first|((first|refine hT _ _ ?_|refine hE _ _ _ ?_|refine hN _ _ ?_);clear hN hE hT)|refine kL ?_|(refine ⟨fun hb=>?_,fun hb=>?_⟩<;>(try simp only [nrm] at hb)<;>(try (first|(exfalso;omega)|contradiction|exact kB hb)))|refine kW aa ?_|refine kC ?_|refine bdA ?_|refine bd2 ?_|refine bdR ?_|refine bdL ?_)<;>((try with_reducible refine af fun N hN hE hT=>?_);(conv=>whnf)))|(refine And.intro ?_ ?_;rotate_left;(conv=>whnf);rotate_right))
                   refine .to (k + 1,false,L ++ [elt .player w.players k]) ⟨hlt,by rw [← hL];simp,by simp;omega⟩ (by first|omega|(dsimp only;omega)) ?_
                   conv=>whnf
                   repeat' (first|exact trivial|((first|((first|refine hT _ _ ?_|refine hE _ _ _ ?_|refine hN _ _ ?_);clear hN hE hT)|refine kL ?_|(refine ⟨fun hb=>?_,fun hb=>?_⟩<;>(try simp only [nrm] at hb)<;>(try (first|(exfalso;omega)|contradiction|exact kB hb)))|refine kW aa ?_|refine kC ?_|refine bdA ?_|refine bd2 ?_|refine bdR ?_|refine bdL ?_)<;>((try with_reducible refine af fun N hN hE hT=>?_);(conv=>whnf)))|(refine And.intro ?_ ?_;rotate_left;(conv=>whnf);rotate_right))
                   all_goals first|rfl|exact List.take_length|exact iH rfl|exact uf (by simp only [List.drop_zero,List.take_length]) rfl|(simp;done)|trace_state
                 · by_cases h2 : (elt .player w.players k).id = p.id
                   · rw [yB h2] at hL
                     conv=>whnf
                     repeat' (first|exact trivial|((first|((first|refine hT _ _ ?_|refine hE _ _ _ ?_|refine hN _ _ ?_);clear hN hE hT)|refine kL ?_|(refine ⟨fun hb=>?_,fun hb=>?_⟩<;>(try simp only [nrm] at hb)<;>(try (first|(exfalso;omega)|contradiction|exact kB hb)))|refine kW aa ?_|refine kC ?_|refine bdA ?_|refine bd2 ?_|refine bdR ?_|refine bdL ?_)<;>((try with_reducible refine af fun N hN hE hT=>?_);(conv=>whnf)))|(refine And.intro ?_ ?_;rotate_left;(conv=>whnf);rotate_right))
                     refine .to (k + 1,true,L ++ [p]) ⟨hlt,by rw [← hL];simp,by simp;omega⟩ (by first|omega|(dsimp only;omega)) ?_
                     conv=>whnf
                     repeat' (first|exact trivial|((first|((first|refine hT _ _ ?_|refine hE _ _ _ ?_|refine hN _ _ ?_);clear hN hE hT)|refine kL ?_|(refine ⟨fun hb=>?_,fun hb=>?_⟩<;>(try simp only [nrm] at hb)<;>(try (first|(exfalso;omega)|contradiction|exact kB hb)))|refine kW aa ?_|refine kC ?_|refine bdA ?_|refine bd2 ?_|refine bdR ?_|refine bdL ?_)<;>((try with_reducible refine af fun N hN hE hT=>?_);(conv=>whnf)))|(refine And.intro ?_ ?_;rotate_left;(conv=>whnf);rotate_right))
                     all_goals first|rfl|exact List.take_length|exact iH rfl|(refine iH ?_;simp only [List.drop_zero,List.take_length];done)|(simp;done)|trace_state
                   · rw [yC (by omega)] at hL
                     conv=>whnf
                     repeat' (first|exact trivial|((first|((first|refine hT _ _ ?_|refine hE _ _ _ ?_|refine hN _ _ ?_);clear hN hE hT)|refine kL ?_|(refine ⟨fun hb=>?_,fun hb=>?_⟩<;>(try simp only [nrm] at hb)<;>(try (first|(exfalso;omega)|contradiction|exact kB hb)))|refine kW aa ?_|refine kC ?_|refine bdA ?_|refine bd2 ?_|refine bdR ?_|refine bdL ?_)<;>((try with_reducible refine af fun N hN hE hT=>?_);(conv=>whnf)))|(refine And.intro ?_ ?_;rotate_left;(conv=>whnf);rotate_right))
                     refine .to (k + 1,true,L ++ [p] ++ [elt .player w.players k]) ⟨hlt,by rw [← hL];simp,by simp;omega⟩ (by first|omega|(dsimp only;omega)) ?_
                     conv=>whnf
                     repeat' (first|exact trivial|((first|((first|refine hT _ _ ?_|refine hE _ _ _ ?_|refine hN _ _ ?_);clear hN hE hT)|refine kL ?_|(refine ⟨fun hb=>?_,fun hb=>?_⟩<;>(try simp only [nrm] at hb)<;>(try (first|(exfalso;omega)|contradiction|exact kB hb)))|refine kW aa ?_|refine kC ?_|refine bdA ?_|refine bd2 ?_|refine bdR ?_|refine bdL ?_)<;>((try with_reducible refine af fun N hN hE hT=>?_);(conv=>whnf)))|(refine And.intro ?_ ?_;rotate_left;(conv=>whnf);rotate_right))
                     all_goals first|rfl|exact List.take_length|exact iH rfl|exact uf (by simp only [List.drop_zero,List.take_length]) rfl|(simp;done)|trace_state
             · obtain rfl : k = w.players.length:=by omega
               rw [List.drop_length] at hL
               cases d
               all_goals
                 simp only [iG] at hL
                 simp only [Bool.toNat_true,Bool.toNat_false] at hLl
                 first|rw [if_neg Bool.false_ne_true] at hL|rw [if_neg (fun h=>h)] at hL|rw [if_pos rfl,List.append_nil] at hL|rw [if_pos trivial,List.append_nil] at hL|trace_state
                 conv=>whnf
                 repeat' (first|exact trivial|((first|((first|refine hT _ _ ?_|refine hE _ _ _ ?_|refine hN _ _ ?_);clear hN hE hT)|refine kL ?_|(refine ⟨fun hb=>?_,fun hb=>?_⟩<;>(try simp only [nrm] at hb)<;>(try (first|(exfalso;omega)|contradiction|exact kB hb)))|refine kW aa ?_|refine kC ?_|refine bdA ?_|refine bd2 ?_|refine bdR ?_|refine bdL ?_)<;>((try with_reducible refine af fun N hN hE hT=>?_);(conv=>whnf)))|(refine And.intro ?_ ?_;rotate_left;(conv=>whnf);rotate_right))
                 all_goals first|rfl|(refine Eq.trans ?_ hL;rw [List.drop_zero];refine iH ?_;simp only [List.drop_zero,List.take_length];done)|(refine Eq.trans ?_ hL;rw [List.drop_zero,List.take_length])|(refine Eq.trans ?_ hL;rw [List.take_length])|trace_state
open Go Go.RowKit Eng
theorem iI (v : Viw) (hv : OkV v) : Api Tryz.prog 104 [bk v] (bol (aV v)):=by
 have hnc:=hv.nc
 have hno:=hv.no
 have hset:=gQ (Aq dv v.me Bm hv.me) (.cons (Le.agg (.cons (Le.refl _) (.cons (Le.refl _) (.cons (Le.refl _) (.cons (Le.nil _) (.cons (Le.nil _) .nil)))))) (.cons (Le.refl _) .nil))
 by_cases hh : jC v = true
 · have hh':=hh
   unfold jC at hh'
   rw [decide_eq_true_eq] at hh'
   obtain ⟨h1,h2,h3,h4,h5⟩:=hh'
   generalize (bF dv v.me).1 = X at *
   generalize (bF dv v.me).2 = e at *
   subst h1
   have hR : aV v = ((List.range v.chunks.length).all (fM v.chunks) && (List.range v.others.length).all (fN v.me.id v.others)):=by unfold aV;rw [hh,Bool.true_and]
   rw [hR]
   clear hR hh
   refine Api.of_fin aa Tryz.func104 rfl (nt:=147) rfl rfl ?_
   conv=>whnf
   repeat' (first|exact trivial|((first|refine kL ?_|(refine ⟨fun hb=>?_,fun hb=>?_⟩<;>(try simp only [nrm] at hb)<;>(try (first|(exfalso;omega)|contradiction|exact kB hb)))|refine kA hset ?_|refine kD hset ?_|refine kW aa ?_|refine kC ?_|refine bdA ?_|refine bd2 ?_|refine bdR ?_|refine bdL ?_)<;>(conv=>whnf))|(refine And.intro ?_ ?_;rotate_left;(conv=>whnf);rotate_right))
   all_goals try omega
   refine aw.loopS aa (σ:=Nat) [1,5] (fun k=>[.ptr 2 0,i64 k]) (fun _=>[(2,.box (bA v))]) (fun k=>k ≤ v.chunks.length ∧ ∀ i < k,fM v.chunks i = true) (fun k=>v.chunks.length - k) 0 ⟨by omega,by omega⟩ ?_ ?_
   · conv=>whnf
     repeat' (first|exact trivial|((first|refine kL ?_|(refine ⟨fun hb=>?_,fun hb=>?_⟩<;>(try simp only [nrm] at hb)<;>(try (first|(exfalso;omega)|contradiction|exact kB hb)))|refine kW aa ?_|refine kC ?_|refine bdA ?_|refine bd2 ?_|refine bdR ?_|refine bdL ?_)<;>(conv=>whnf))|(refine And.intro ?_ ?_;rotate_left;(conv=>whnf);rotate_right))
     all_goals first|rfl|omega|trace_state
   · rintro k ⟨hk,hall⟩
     by_cases hlt : k < v.chunks.length
     · have hcr:=f9 (elt .chunk v.chunks k) (hv.chunks _ (ay (t:=.chunk) hlt))
       have hkk : (((k : Nat) : Int) - 1).toNat = k - 1:=by omega
       have hQ : fM v.chunks k = (ar (elt .chunk v.chunks k) && (decide (k = 0) || decide (bO (elt .chunk v.chunks (((k : Nat) : Int) - 1).toNat) (elt .chunk v.chunks k) < 0))):=by rw [hkk];rfl
       cases hB : ar (elt .chunk v.chunks k) with
       | false =>
         have hF : ((List.range v.chunks.length).all (fM v.chunks) && (List.range v.others.length).all (fN v.me.id v.others)) = false:=by
           rw [h_ hlt (by rw [hQ,hB];rfl)];rfl
         rw [hF]
         rw [hB] at hcr
         clear hF hQ hall
         conv=>whnf
         repeat' (first|exact trivial|((first|refine kL ?_|(refine ⟨fun hb=>?_,fun hb=>?_⟩<;>(try simp only [nrm] at hb)<;>(try (first|(exfalso;omega)|contradiction|exact kB hb)))|refine kA hcr ?_|refine kD hcr ?_|refine kW aa ?_|refine kC ?_|refine bdA ?_|refine bd2 ?_|refine bdR ?_|refine bdL ?_)<;>(conv=>whnf))|(refine And.intro ?_ ?_;rotate_left;(conv=>whnf);rotate_right))
         all_goals first|rfl|omega|trace_state
       | true =>
         rw [hB] at hcr
         have hb1:=cX hB
         have hb3 : 0 ≤ (elt .chunk v.chunks ((k : Nat) : Int).toNat).x ∧ 0 ≤ (elt .chunk v.chunks ((k : Nat) : Int).toNat).y ∧ (elt .chunk v.chunks ((k : Nat) : Int).toNat).x < 16 ∧ (elt .chunk v.chunks ((k : Nat) : Int).toNat).y < 16:=hb1
         have hb2 : 0 < k → 0 ≤ (elt .chunk v.chunks (((k : Nat) : Int) - 1).toNat).x ∧ 0 ≤ (elt .chunk v.chunks (((k : Nat) : Int) - 1).toNat).y ∧ (elt .chunk v.chunks (((k : Nat) : Int) - 1).toNat).x < 16 ∧ (elt .chunk v.chunks (((k : Nat) : Int) - 1).toNat).y < 16:=fun h0=>by
           rw [hkk]
           have h9:=hall (k - 1) (by omega)
           unfold fM at h9
           rw [Bool.and_eq_true] at h9
           exact cX h9.1
         have hok : 0 < k → (bO (elt .chunk v.chunks (((k : Nat) : Int) - 1).toNat) (elt .chunk v.chunks k) < 0 ↔ bi (elt .chunk v.chunks (((k : Nat) : Int) - 1).toNat) < bi (elt .chunk v.chunks k)):=fun h0=>(lv ⟨(hb2 h0).1,(hb2 h0).2.2.1⟩ ⟨hb1.1,hb1.2.2.1⟩).1
         unfold bi at hok
         generalize bO (elt .chunk v.chunks (((k : Nat) : Int) - 1).toNat) (elt .chunk v.chunks k) = O at *
         clear hkk
         by_cases hO : k = 0 ∨ O < 0
         · have hT : fM v.chunks k = true:=by
             rw [hQ,hB,Bool.true_and,Bool.or_eq_true,decide_eq_true_eq,decide_eq_true_eq];exact hO
           clear hQ
           conv=>whnf
           repeat' (first|exact trivial|((first|refine kL ?_|(refine ⟨fun hb=>?_,fun hb=>?_⟩<;>(try simp only [nrm] at hb)<;>(try (first|(exfalso;omega)|contradiction|exact kB hb)))|refine kA hcr ?_|refine kD hcr ?_|refine kW aa ?_|refine kC ?_|refine bdA ?_|refine bd2 ?_|refine bdR ?_|refine bdL ?_)<;>(conv=>whnf))|(refine And.intro ?_ ?_;rotate_left;(conv=>whnf);rotate_right))
           all_goals try omega
           all_goals
             refine .to (k + 1) ⟨hlt,fun i hi=>?_⟩ (by omega) ?_
             · by_cases hik : i = k
               · rw [hik];exact hT
               · exact hall i (by omega)
             conv=>whnf
             repeat' (first|exact trivial|((first|refine kL ?_|(refine ⟨fun hb=>?_,fun hb=>?_⟩<;>(try simp only [nrm] at hb)<;>(try (first|(exfalso;omega)|contradiction|exact kB hb)))|refine kW aa ?_|refine kC ?_|refine bdA ?_|refine bd2 ?_|refine bdR ?_|refine bdL ?_)<;>(conv=>whnf))|(refine And.intro ?_ ?_;rotate_left;(conv=>whnf);rotate_right))
             all_goals first|rfl|omega|trace_state
         · have hF : ((List.range v.chunks.length).all (fM v.chunks) && (List.range v.others.length).all (fN v.me.id v.others)) = false:=by
             rw [h_ hlt (by rw [hQ,hB,Bool.true_and,Bool.or_eq_false_iff,decide_eq_false_iff_not,decide_eq_false_iff_not];exact ⟨fun h=>hO (.inl h),fun h=>hO (.inr h)⟩)];rfl
           rw [hF]
           clear hF hQ hall
           conv=>whnf
           repeat' (first|exact trivial|((first|refine kL ?_|(refine ⟨fun hb=>?_,fun hb=>?_⟩<;>(try simp only [nrm] at hb)<;>(try (first|(exfalso;omega)|contradiction|exact kB hb)))|refine kA hcr ?_|refine kD hcr ?_|refine kW aa ?_|refine kC ?_|refine bdA ?_|refine bd2 ?_|refine bdR ?_|refine bdL ?_)<;>(conv=>whnf))|(refine And.intro ?_ ?_;rotate_left;(conv=>whnf);rotate_right))
           all_goals first|rfl|omega|trace_state
     · obtain rfl : k = v.chunks.length:=by omega
       rw [mN hall,Bool.true_and]
       conv=>whnf
       repeat' (first|exact trivial|((first|refine kL ?_|(refine ⟨fun hb=>?_,fun hb=>?_⟩<;>(try simp only [nrm] at hb)<;>(try (first|(exfalso;omega)|contradiction|exact kB hb)))|refine kW aa ?_|refine kC ?_|refine bdA ?_|refine bd2 ?_|refine bdR ?_|refine bdL ?_)<;>(conv=>whnf))|(refine And.intro ?_ ?_;rotate_left;(conv=>whnf);rotate_right))
       all_goals try omega
       refine aw.loopS aa (σ:=Nat) [1,7] (fun k=>[.ptr 2 0,i64 k]) (fun _=>[(2,.box (bA v))]) (fun k=>k ≤ v.others.length ∧ ∀ i < k,fN v.me.id v.others i = true) (fun k=>v.others.length - k) 0 ⟨by omega,by omega⟩ ?_ ?_
       · conv=>whnf
         repeat' (first|exact trivial|((first|refine kL ?_|(refine ⟨fun hb=>?_,fun hb=>?_⟩<;>(try simp only [nrm] at hb)<;>(try (first|(exfalso;omega)|contradiction|exact kB hb)))|refine kW aa ?_|refine kC ?_|refine bdA ?_|refine bd2 ?_|refine bdR ?_|refine bdL ?_)<;>(conv=>whnf))|(refine And.intro ?_ ?_;rotate_left;(conv=>whnf);rotate_right))
         all_goals first|rfl|omega|trace_state
       · rintro k ⟨hk,hall⟩
         by_cases hlt : k < v.others.length
         · have hkk : (((k : Nat) : Int) - 1).toNat = k - 1:=by omega
           have hQ : fN v.me.id v.others k = true ↔ (0 ≤ (elt .seen v.others k).id ∧ (elt .seen v.others k).id ≤ 1073741824 ∧ (elt .seen v.others k).id ≠ v.me.id ∧ 0 ≤ min (elt .seen v.others k).x (elt .seen v.others k).y ∧ max (elt .seen v.others k).x (elt .seen v.others k).y < 128 ∧ (k = 0 ∨ (elt .seen v.others (((k : Nat) : Int) - 1).toNat).id < (elt .seen v.others k).id)):=by
             rw [hkk];unfold fN;rw [decide_eq_true_eq]
           clear hkk
           by_cases hO : fN v.me.id v.others k = true
           · have hO2:=hQ.1 hO
             clear hQ
             conv=>whnf
             repeat' (first|exact trivial|((first|refine kL ?_|(refine ⟨fun hb=>?_,fun hb=>?_⟩<;>(try simp only [nrm] at hb)<;>(try (first|(exfalso;omega)|contradiction|exact kB hb)))|refine kW aa ?_|refine kC ?_|refine bdA ?_|refine bd2 ?_|refine bdR ?_|refine bdL ?_)<;>(conv=>whnf))|(refine And.intro ?_ ?_;rotate_left;(conv=>whnf);rotate_right))
             all_goals try omega
             all_goals
               refine .to (k + 1) ⟨hlt,fun i hi=>?_⟩ (by omega) ?_
               · by_cases hik : i = k
                 · rw [hik];exact hO
                 · exact hall i (by omega)
               conv=>whnf
               repeat' (first|exact trivial|((first|refine kL ?_|(refine ⟨fun hb=>?_,fun hb=>?_⟩<;>(try simp only [nrm] at hb)<;>(try (first|(exfalso;omega)|contradiction|exact kB hb)))|refine kW aa ?_|refine kC ?_|refine bdA ?_|refine bd2 ?_|refine bdR ?_|refine bdL ?_)<;>(conv=>whnf))|(refine And.intro ?_ ?_;rotate_left;(conv=>whnf);rotate_right))
               all_goals first|rfl|omega|trace_state
           · have hF:=h_ hlt (Bool.eq_false_iff.2 hO)
             rw [hF]
             have hO2 : ¬ (0 ≤ (elt .seen v.others k).id ∧ (elt .seen v.others k).id ≤ 1073741824 ∧ (elt .seen v.others k).id ≠ v.me.id ∧ 0 ≤ min (elt .seen v.others k).x (elt .seen v.others k).y ∧ max (elt .seen v.others k).x (elt .seen v.others k).y < 128 ∧ (k = 0 ∨ (elt .seen v.others (((k : Nat) : Int) - 1).toNat).id < (elt .seen v.others k).id)):=fun h=>hO (hQ.2 h)
             clear hQ hF hO hall
             conv=>whnf
             repeat' (first|exact trivial|((first|refine kL ?_|(refine ⟨fun hb=>?_,fun hb=>?_⟩<;>(try simp only [nrm] at hb)<;>(try (first|(exfalso;omega)|contradiction|exact kB hb)))|refine kW aa ?_|refine kC ?_|refine bdA ?_|refine bd2 ?_|refine bdR ?_|refine bdL ?_)<;>(conv=>whnf))|(refine And.intro ?_ ?_;rotate_left;(conv=>whnf);rotate_right))
             all_goals first|rfl|omega|trace_state
         · obtain rfl : k = v.others.length:=by omega
           rw [mN hall]
           conv=>whnf
           repeat' (first|exact trivial|((first|refine kL ?_|(refine ⟨fun hb=>?_,fun hb=>?_⟩<;>(try simp only [nrm] at hb)<;>(try (first|(exfalso;omega)|contradiction|exact kB hb)))|refine kW aa ?_|refine kC ?_|refine bdA ?_|refine bd2 ?_|refine bdR ?_|refine bdL ?_)<;>(conv=>whnf))|(refine And.intro ?_ ?_;rotate_left;(conv=>whnf);rotate_right))
           all_goals first|rfl|omega|trace_state
 · have hR : aV v = false:=by unfold aV;rw [Bool.eq_false_iff.2 hh];rfl
   rw [hR]
   have hh' : ¬ ((bF dv v.me).2 = 0 ∧ 0 ≤ v.tick ∧ v.tick ≤ 1099511627776 ∧ v.chunks.length ≤ 49 ∧ v.others.length ≤ 32):=by
     intro h;exact hh (by unfold jC;rw [decide_eq_true_eq];exact h)
   have hn:=yo dv v.me
   generalize (bF dv v.me).1 = X at *
   generalize (bF dv v.me).2 = e at *
   refine Api.of_fin aa Tryz.func104 rfl (nt:=147) rfl rfl ?_
   conv=>whnf
   repeat' (first|exact trivial|((first|refine kL ?_|(refine ⟨fun hb=>?_,fun hb=>?_⟩<;>(try simp only [nrm] at hb)<;>(try (first|(exfalso;omega)|contradiction|exact kB hb)))|refine kA hset ?_|refine kD hset ?_|refine kW aa ?_|refine kC ?_|refine bdA ?_|refine bd2 ?_|refine bdR ?_|refine bdL ?_)<;>(conv=>whnf))|(refine And.intro ?_ ?_;rotate_left;(conv=>whnf);rotate_right))
   all_goals first|omega|rfl|trace_state
end Go.Proofs.YtaecchphjploaaaGreat
