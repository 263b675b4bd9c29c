/- homesteadlaw16.RulesFar. -/
import Derived.Test.YtkojlembanldcaaGreatRc
set_option linter.unusedSimpArgs false
set_option linter.unusedVariables false
set_option maxRecDepth 100000
set_option maxHeartbeats 4000000
namespace Go.Proofs.YtkojlembanldcaaGreat
open Go Go.RowKit Eng
theorem rfar_gone (w n : Wld) (id : Int) (c : Cmd) (x0 x1 x y e : Int) (P : Player) (B : Bool) (K1 K2 : Chunk) (B1 B2 : Bool) (hd : 0 ≤ c.dol ∧ c.dol ≤ 255) (hx : 0 ≤ x ∧ x < 16) (hy : 0 ≤ y ∧ y < 16) (hpb : B = true → 0 ≤ P.x ∧ P.x ≤ 200 ∧ 0 ≤ P.y ∧ P.y ≤ 200) (hnp : w.players.length ≤ 32) (hB : B = false) (hF : FarG w n id c x0 x1 x y e P B K1 K2 B1 B2) (hsm : Api Tryz.prog 32 [chunkV K1,chunkV K2] (bol true)) : Api Tryz.prog 4 [wldV w,dooA id c,.agg [i64 x0,i64 x1]] (bol true):=by
 have haw:=awake16_api
 obtain ⟨hse,hpx,hpy,hpl,hap,hch,hcn,hfp,hsp⟩:=hF
 subst hB
 refine Api.of_fin cfg_ok Tryz.func4 rfl (nt:=171) rfl rfl ?_
 ((try with_reducible refine evCut fun N hN hE hT=>?_);(conv=>whnf))
 repeat' (first|exact trivial|((first|((first|refine hT _ _ ?_|refine hE _ _ _ ?_|refine hN _ _ ?_);clear hN hE hT)|refine kL ?_|(refine ⟨fun hb=>?_,fun hb=>?_⟩<;>(try simp only [nrm] at hb)<;>(try (first|(exfalso;omega)|contradiction|exact kB hb)))|refine kA hse ?_|refine kD hse ?_|refine kA hpx ?_|refine kD hpx ?_|refine kA hpy ?_|refine kD hpy ?_|refine kA hpl ?_|refine kD hpl ?_|refine kA hap ?_|refine kD hap ?_|refine kA hch ?_|refine kD hch ?_|refine kA hcn ?_|refine kD hcn ?_|refine kA hsm ?_|refine kD hsm ?_|refine kW cfg_ok ?_|refine kC ?_|refine bdA ?_|refine bd2 ?_|refine bdR ?_|refine bdL ?_)<;>((try with_reducible refine evCut fun N hN hE hT=>?_);(conv=>whnf)))|(refine And.intro ?_ ?_;rotate_left;(conv=>whnf);rotate_right))
 refine Runs.loopQ cfg_ok (σ:=Nat) [4,9,10,12,111,112,113] (fun k=>[.ptr 8 0,.ptr 18 0,bol false,.ptr 24 0,.vec .player w.players,i64 w.players.length,i64 k]) (fun _=>[(8,.box [i64 id,.lit (.int .u8 c.dol),i64 c.a,i64 c.b,i64 c.c,i64 c.n]),(18,.box (playerC P)),(24,.box (wldC n))]) (fun k=>k ≤ w.players.length) (fun k=>w.players.length - k) 0 (by omega) ?_ ?_
 · conv=>whnf
   repeat' (first|exact trivial|((first|((first|refine hT _ _ ?_|refine hE _ _ _ ?_|refine hN _ _ ?_);clear hN hE hT)|refine kL ?_|(refine ⟨fun hb=>?_,fun hb=>?_⟩<;>(try simp only [nrm] at hb)<;>(try (first|(exfalso;omega)|contradiction|exact kB hb)))|refine kW cfg_ok ?_|refine kC ?_|refine bdA ?_|refine bd2 ?_|refine bdR ?_|refine bdL ?_)<;>((try with_reducible refine evCut fun N hN hE hT=>?_);(conv=>whnf)))|(refine And.intro ?_ ?_;rotate_left;(conv=>whnf);rotate_right))
   all_goals first|rfl|omega|trace_state
 · intro k hk N hN hE hT
   clear hse hpx hpy hpl hap hch hcn
   by_cases hlt : k < w.players.length
   · have hqm : elt .player w.players ((k : Nat) : Int).toNat ∈ w.players:=by rw [Int.toNat_natCast];exact elt_mem (t:=.player) hlt
     obtain ⟨r,hpn,hr2⟩:=hfp _ hqm
     have hs:=hsp _ hqm
     clear hfp hsp
     by_cases e1 : (elt .player w.players ((k : Nat) : Int).toNat).id = id
     · clear hs hr2
       conv=>whnf
       repeat' (first|exact trivial|((first|((first|refine hT _ _ ?_|refine hE _ _ _ ?_|refine hN _ _ ?_);clear hN hE hT)|refine kL ?_|(refine ⟨fun hb=>?_,fun hb=>?_⟩<;>(try simp only [nrm] at hb)<;>(try (first|(exfalso;omega)|contradiction|exact kB hb)))|refine kA hpn ?_|refine kD hpn ?_|refine kW cfg_ok ?_|refine kC ?_|refine bdA ?_|refine bd2 ?_|refine bdR ?_|refine bdL ?_)<;>((try with_reducible refine evCut fun N hN hE hT=>?_);(conv=>whnf)))|(refine And.intro ?_ ?_;rotate_left;(conv=>whnf);rotate_right))
       refine .to (k + 1) hlt (by omega) ?_
       conv=>whnf
       repeat' (first|exact trivial|((first|((first|refine hT _ _ ?_|refine hE _ _ _ ?_|refine hN _ _ ?_);clear hN hE hT)|refine kL ?_|(refine ⟨fun hb=>?_,fun hb=>?_⟩<;>(try simp only [nrm] at hb)<;>(try (first|(exfalso;omega)|contradiction|exact kB hb)))|refine kW cfg_ok ?_|refine kC ?_|refine bdA ?_|refine bd2 ?_|refine bdR ?_|refine bdL ?_)<;>((try with_reducible refine evCut fun N hN hE hT=>?_);(conv=>whnf)))|(refine And.intro ?_ ?_;rotate_left;(conv=>whnf);rotate_right))
       all_goals first|rfl|omega|trace_state
     by_cases e2 : (elt .player w.players ((k : Nat) : Int).toNat).wth = id
     · clear hs hr2
       conv=>whnf
       repeat' (first|exact trivial|((first|((first|refine hT _ _ ?_|refine hE _ _ _ ?_|refine hN _ _ ?_);clear hN hE hT)|refine kL ?_|(refine ⟨fun hb=>?_,fun hb=>?_⟩<;>(try simp only [nrm] at hb)<;>(try (first|(exfalso;omega)|contradiction|exact kB hb)))|refine kA hpn ?_|refine kD hpn ?_|refine kW cfg_ok ?_|refine kC ?_|refine bdA ?_|refine bd2 ?_|refine bdR ?_|refine bdL ?_)<;>((try with_reducible refine evCut fun N hN hE hT=>?_);(conv=>whnf)))|(refine And.intro ?_ ?_;rotate_left;(conv=>whnf);rotate_right))
       refine .to (k + 1) hlt (by omega) ?_
       conv=>whnf
       repeat' (first|exact trivial|((first|((first|refine hT _ _ ?_|refine hE _ _ _ ?_|refine hN _ _ ?_);clear hN hE hT)|refine kL ?_|(refine ⟨fun hb=>?_,fun hb=>?_⟩<;>(try simp only [nrm] at hb)<;>(try (first|(exfalso;omega)|contradiction|exact kB hb)))|refine kW cfg_ok ?_|refine kC ?_|refine bdA ?_|refine bd2 ?_|refine bdR ?_|refine bdL ?_)<;>((try with_reducible refine evCut fun N hN hE hT=>?_);(conv=>whnf)))|(refine And.intro ?_ ?_;rotate_left;(conv=>whnf);rotate_right))
       all_goals first|rfl|omega|trace_state
     by_cases e4 : c.dol = 11
     · by_cases e5 : c.a = (elt .player w.players ((k : Nat) : Int).toNat).id
       · clear hs hr2
         conv=>whnf
         repeat' (first|exact trivial|((first|((first|refine hT _ _ ?_|refine hE _ _ _ ?_|refine hN _ _ ?_);clear hN hE hT)|refine kL ?_|(refine ⟨fun hb=>?_,fun hb=>?_⟩<;>(try simp only [nrm] at hb)<;>(try (first|(exfalso;omega)|contradiction|exact kB hb)))|refine kA hpn ?_|refine kD hpn ?_|refine kW cfg_ok ?_|refine kC ?_|refine bdA ?_|refine bd2 ?_|refine bdR ?_|refine bdL ?_)<;>((try with_reducible refine evCut fun N hN hE hT=>?_);(conv=>whnf)))|(refine And.intro ?_ ?_;rotate_left;(conv=>whnf);rotate_right))
         refine .to (k + 1) hlt (by omega) ?_
         conv=>whnf
         repeat' (first|exact trivial|((first|((first|refine hT _ _ ?_|refine hE _ _ _ ?_|refine hN _ _ ?_);clear hN hE hT)|refine kL ?_|(refine ⟨fun hb=>?_,fun hb=>?_⟩<;>(try simp only [nrm] at hb)<;>(try (first|(exfalso;omega)|contradiction|exact kB hb)))|refine kW cfg_ok ?_|refine kC ?_|refine bdA ?_|refine bd2 ?_|refine bdR ?_|refine bdL ?_)<;>((try with_reducible refine evCut fun N hN hE hT=>?_);(conv=>whnf)))|(refine And.intro ?_ ?_;rotate_left;(conv=>whnf);rotate_right))
         all_goals first|rfl|omega|trace_state
       · have hrq:=hr2 e1 e2 (fun h=>Bool.noConfusion h.1) (fun h=>e5 h.2)
         subst hrq
         clear hr2
         conv=>whnf
         repeat' (first|exact trivial|((first|((first|refine hT _ _ ?_|refine hE _ _ _ ?_|refine hN _ _ ?_);clear hN hE hT)|refine kL ?_|(refine ⟨fun hb=>?_,fun hb=>?_⟩<;>(try simp only [nrm] at hb)<;>(try (first|(exfalso;omega)|contradiction|exact kB hb)))|refine kA hpn ?_|refine kD hpn ?_|refine kA hs ?_|refine kD hs ?_|refine kW cfg_ok ?_|refine kC ?_|refine bdA ?_|refine bd2 ?_|refine bdR ?_|refine bdL ?_)<;>((try with_reducible refine evCut fun N hN hE hT=>?_);(conv=>whnf)))|(refine And.intro ?_ ?_;rotate_left;(conv=>whnf);rotate_right))
         refine .to (k + 1) hlt (by omega) ?_
         conv=>whnf
         repeat' (first|exact trivial|((first|((first|refine hT _ _ ?_|refine hE _ _ _ ?_|refine hN _ _ ?_);clear hN hE hT)|refine kL ?_|(refine ⟨fun hb=>?_,fun hb=>?_⟩<;>(try simp only [nrm] at hb)<;>(try (first|(exfalso;omega)|contradiction|exact kB hb)))|refine kW cfg_ok ?_|refine kC ?_|refine bdA ?_|refine bd2 ?_|refine bdR ?_|refine bdL ?_)<;>((try with_reducible refine evCut fun N hN hE hT=>?_);(conv=>whnf)))|(refine And.intro ?_ ?_;rotate_left;(conv=>whnf);rotate_right))
         all_goals first|rfl|omega|trace_state
     · have hrq:=hr2 e1 e2 (fun h=>Bool.noConfusion h.1) (fun h=>e4 h.1)
       subst hrq
       clear hr2
       conv=>whnf
       repeat' (first|exact trivial|((first|((first|refine hT _ _ ?_|refine hE _ _ _ ?_|refine hN _ _ ?_);clear hN hE hT)|refine kL ?_|(refine ⟨fun hb=>?_,fun hb=>?_⟩<;>(try simp only [nrm] at hb)<;>(try (first|(exfalso;omega)|contradiction|exact kB hb)))|refine kA hpn ?_|refine kD hpn ?_|refine kA hs ?_|refine kD hs ?_|refine kW cfg_ok ?_|refine kC ?_|refine bdA ?_|refine bd2 ?_|refine bdR ?_|refine bdL ?_)<;>((try with_reducible refine evCut fun N hN hE hT=>?_);(conv=>whnf)))|(refine And.intro ?_ ?_;rotate_left;(conv=>whnf);rotate_right))
       refine .to (k + 1) hlt (by omega) ?_
       conv=>whnf
       repeat' (first|exact trivial|((first|((first|refine hT _ _ ?_|refine hE _ _ _ ?_|refine hN _ _ ?_);clear hN hE hT)|refine kL ?_|(refine ⟨fun hb=>?_,fun hb=>?_⟩<;>(try simp only [nrm] at hb)<;>(try (first|(exfalso;omega)|contradiction|exact kB hb)))|refine kW cfg_ok ?_|refine kC ?_|refine bdA ?_|refine bd2 ?_|refine bdR ?_|refine bdL ?_)<;>((try with_reducible refine evCut fun N hN hE hT=>?_);(conv=>whnf)))|(refine And.intro ?_ ?_;rotate_left;(conv=>whnf);rotate_right))
       all_goals first|rfl|omega|trace_state
   · obtain rfl : k = w.players.length:=by omega
     clear hfp hsp
     conv=>whnf
     repeat' (first|exact trivial|((first|((first|refine hT _ _ ?_|refine hE _ _ _ ?_|refine hN _ _ ?_);clear hN hE hT)|refine kL ?_|(refine ⟨fun hb=>?_,fun hb=>?_⟩<;>(try simp only [nrm] at hb)<;>(try (first|(exfalso;omega)|contradiction|exact kB hb)))|refine kA haw ?_|refine kD haw ?_|refine kW cfg_ok ?_|refine kC ?_|refine bdA ?_|refine bd2 ?_|refine bdR ?_|refine bdL ?_)<;>((try with_reducible refine evCut fun N hN hE hT=>?_);(conv=>whnf)))|(refine And.intro ?_ ?_;rotate_left;(conv=>whnf);rotate_right))
     all_goals first|rfl|omega|trace_state
open Go Go.RowKit Eng
theorem rfar_west (w n : Wld) (id : Int) (c : Cmd) (x0 x1 x y e : Int) (P : Player) (B : Bool) (K1 K2 : Chunk) (B1 B2 : Bool) (hd : 0 ≤ c.dol ∧ c.dol ≤ 255) (hx : 0 ≤ x ∧ x < 16) (hy : 0 ≤ y ∧ y < 16) (hpb : B = true → 0 ≤ P.x ∧ P.x ≤ 200 ∧ 0 ≤ P.y ∧ P.y ≤ 200) (hnp : w.players.length ≤ 32) (hB : B = true) (hd1 : P.x + 3 < 8 * x) (hF : FarG w n id c x0 x1 x y e P B K1 K2 B1 B2) (hsm : Api Tryz.prog 32 [chunkV K1,chunkV K2] (bol true)) : Api Tryz.prog 4 [wldV w,dooA id c,.agg [i64 x0,i64 x1]] (bol true):=by
 have haw:=awake16_api
 obtain ⟨hse,hpx,hpy,hpl,hap,hch,hcn,hfp,hsp⟩:=hF
 subst hB
 have hpb2:=hpb rfl
 refine Api.of_fin cfg_ok Tryz.func4 rfl (nt:=171) rfl rfl ?_
 ((try with_reducible refine evCut fun N hN hE hT=>?_);(conv=>whnf))
 repeat' (first|exact trivial|((first|((first|refine hT _ _ ?_|refine hE _ _ _ ?_|refine hN _ _ ?_);clear hN hE hT)|refine kL ?_|(refine ⟨fun hb=>?_,fun hb=>?_⟩<;>(try simp only [nrm] at hb)<;>(try (first|(exfalso;omega)|contradiction|exact kB hb)))|refine kA hse ?_|refine kD hse ?_|refine kA hpx ?_|refine kD hpx ?_|refine kA hpy ?_|refine kD hpy ?_|refine kA hpl ?_|refine kD hpl ?_|refine kA hap ?_|refine kD hap ?_|refine kA hch ?_|refine kD hch ?_|refine kA hcn ?_|refine kD hcn ?_|refine kA hsm ?_|refine kD hsm ?_|refine kW cfg_ok ?_|refine kC ?_|refine bdA ?_|refine bd2 ?_|refine bdR ?_|refine bdL ?_)<;>((try with_reducible refine evCut fun N hN hE hT=>?_);(conv=>whnf)))|(refine And.intro ?_ ?_;rotate_left;(conv=>whnf);rotate_right))
 refine Runs.loopQ cfg_ok (σ:=Nat) [4,9,10,12,111,112,113] (fun k=>[.ptr 8 0,.ptr 18 0,bol true,.ptr 24 0,.vec .player w.players,i64 w.players.length,i64 k]) (fun _=>[(8,.box [i64 id,.lit (.int .u8 c.dol),i64 c.a,i64 c.b,i64 c.c,i64 c.n]),(18,.box (playerC P)),(24,.box (wldC n))]) (fun k=>k ≤ w.players.length) (fun k=>w.players.length - k) 0 (by omega) ?_ ?_
 · conv=>whnf
   repeat' (first|exact trivial|((first|((first|refine hT _ _ ?_|refine hE _ _ _ ?_|refine hN _ _ ?_);clear hN hE hT)|refine kL ?_|(refine ⟨fun hb=>?_,fun hb=>?_⟩<;>(try simp only [nrm] at hb)<;>(try (first|(exfalso;omega)|contradiction|exact kB hb)))|refine kW cfg_ok ?_|refine kC ?_|refine bdA ?_|refine bd2 ?_|refine bdR ?_|refine bdL ?_)<;>((try with_reducible refine evCut fun N hN hE hT=>?_);(conv=>whnf)))|(refine And.intro ?_ ?_;rotate_left;(conv=>whnf);rotate_right))
   all_goals first|rfl|omega|trace_state
 · intro k hk N hN hE hT
   clear hse hpx hpy hpl hap hch hcn
   by_cases hlt : k < w.players.length
   · have hqm : elt .player w.players ((k : Nat) : Int).toNat ∈ w.players:=by rw [Int.toNat_natCast];exact elt_mem (t:=.player) hlt
     obtain ⟨r,hpn,hr2⟩:=hfp _ hqm
     have hs:=hsp _ hqm
     clear hfp hsp
     by_cases e1 : (elt .player w.players ((k : Nat) : Int).toNat).id = id
     · clear hs hr2
       conv=>whnf
       repeat' (first|exact trivial|((first|((first|refine hT _ _ ?_|refine hE _ _ _ ?_|refine hN _ _ ?_);clear hN hE hT)|refine kL ?_|(refine ⟨fun hb=>?_,fun hb=>?_⟩<;>(try simp only [nrm] at hb)<;>(try (first|(exfalso;omega)|contradiction|exact kB hb)))|refine kA hpn ?_|refine kD hpn ?_|refine kW cfg_ok ?_|refine kC ?_|refine bdA ?_|refine bd2 ?_|refine bdR ?_|refine bdL ?_)<;>((try with_reducible refine evCut fun N hN hE hT=>?_);(conv=>whnf)))|(refine And.intro ?_ ?_;rotate_left;(conv=>whnf);rotate_right))
       refine .to (k + 1) hlt (by omega) ?_
       conv=>whnf
       repeat' (first|exact trivial|((first|((first|refine hT _ _ ?_|refine hE _ _ _ ?_|refine hN _ _ ?_);clear hN hE hT)|refine kL ?_|(refine ⟨fun hb=>?_,fun hb=>?_⟩<;>(try simp only [nrm] at hb)<;>(try (first|(exfalso;omega)|contradiction|exact kB hb)))|refine kW cfg_ok ?_|refine kC ?_|refine bdA ?_|refine bd2 ?_|refine bdR ?_|refine bdL ?_)<;>((try with_reducible refine evCut fun N hN hE hT=>?_);(conv=>whnf)))|(refine And.intro ?_ ?_;rotate_left;(conv=>whnf);rotate_right))
       all_goals first|rfl|omega|trace_state
     by_cases e2 : (elt .player w.players ((k : Nat) : Int).toNat).wth = id
     · clear hs hr2
       conv=>whnf
       repeat' (first|exact trivial|((first|((first|refine hT _ _ ?_|refine hE _ _ _ ?_|refine hN _ _ ?_);clear hN hE hT)|refine kL ?_|(refine ⟨fun hb=>?_,fun hb=>?_⟩<;>(try simp only [nrm] at hb)<;>(try (first|(exfalso;omega)|contradiction|exact kB hb)))|refine kA hpn ?_|refine kD hpn ?_|refine kW cfg_ok ?_|refine kC ?_|refine bdA ?_|refine bd2 ?_|refine bdR ?_|refine bdL ?_)<;>((try with_reducible refine evCut fun N hN hE hT=>?_);(conv=>whnf)))|(refine And.intro ?_ ?_;rotate_left;(conv=>whnf);rotate_right))
       refine .to (k + 1) hlt (by omega) ?_
       conv=>whnf
       repeat' (first|exact trivial|((first|((first|refine hT _ _ ?_|refine hE _ _ _ ?_|refine hN _ _ ?_);clear hN hE hT)|refine kL ?_|(refine ⟨fun hb=>?_,fun hb=>?_⟩<;>(try simp only [nrm] at hb)<;>(try (first|(exfalso;omega)|contradiction|exact kB hb)))|refine kW cfg_ok ?_|refine kC ?_|refine bdA ?_|refine bd2 ?_|refine bdR ?_|refine bdL ?_)<;>((try with_reducible refine evCut fun N hN hE hT=>?_);(conv=>whnf)))|(refine And.intro ?_ ?_;rotate_left;(conv=>whnf);rotate_right))
       all_goals first|rfl|omega|trace_state
     by_cases e3 : P.wth = (elt .player w.players ((k : Nat) : Int).toNat).id
     · clear hs hr2
       conv=>whnf
       repeat' (first|exact trivial|((first|((first|refine hT _ _ ?_|refine hE _ _ _ ?_|refine hN _ _ ?_);clear hN hE hT)|refine kL ?_|(refine ⟨fun hb=>?_,fun hb=>?_⟩<;>(try simp only [nrm] at hb)<;>(try (first|(exfalso;omega)|contradiction|exact kB hb)))|refine kA hpn ?_|refine kD hpn ?_|refine kW cfg_ok ?_|refine kC ?_|refine bdA ?_|refine bd2 ?_|refine bdR ?_|refine bdL ?_)<;>((try with_reducible refine evCut fun N hN hE hT=>?_);(conv=>whnf)))|(refine And.intro ?_ ?_;rotate_left;(conv=>whnf);rotate_right))
       refine .to (k + 1) hlt (by omega) ?_
       conv=>whnf
       repeat' (first|exact trivial|((first|((first|refine hT _ _ ?_|refine hE _ _ _ ?_|refine hN _ _ ?_);clear hN hE hT)|refine kL ?_|(refine ⟨fun hb=>?_,fun hb=>?_⟩<;>(try simp only [nrm] at hb)<;>(try (first|(exfalso;omega)|contradiction|exact kB hb)))|refine kW cfg_ok ?_|refine kC ?_|refine bdA ?_|refine bd2 ?_|refine bdR ?_|refine bdL ?_)<;>((try with_reducible refine evCut fun N hN hE hT=>?_);(conv=>whnf)))|(refine And.intro ?_ ?_;rotate_left;(conv=>whnf);rotate_right))
       all_goals first|rfl|omega|trace_state
     by_cases e4 : c.dol = 11
     · by_cases e5 : c.a = (elt .player w.players ((k : Nat) : Int).toNat).id
       · clear hs hr2
         conv=>whnf
         repeat' (first|exact trivial|((first|((first|refine hT _ _ ?_|refine hE _ _ _ ?_|refine hN _ _ ?_);clear hN hE hT)|refine kL ?_|(refine ⟨fun hb=>?_,fun hb=>?_⟩<;>(try simp only [nrm] at hb)<;>(try (first|(exfalso;omega)|contradiction|exact kB hb)))|refine kA hpn ?_|refine kD hpn ?_|refine kW cfg_ok ?_|refine kC ?_|refine bdA ?_|refine bd2 ?_|refine bdR ?_|refine bdL ?_)<;>((try with_reducible refine evCut fun N hN hE hT=>?_);(conv=>whnf)))|(refine And.intro ?_ ?_;rotate_left;(conv=>whnf);rotate_right))
         refine .to (k + 1) hlt (by omega) ?_
         conv=>whnf
         repeat' (first|exact trivial|((first|((first|refine hT _ _ ?_|refine hE _ _ _ ?_|refine hN _ _ ?_);clear hN hE hT)|refine kL ?_|(refine ⟨fun hb=>?_,fun hb=>?_⟩<;>(try simp only [nrm] at hb)<;>(try (first|(exfalso;omega)|contradiction|exact kB hb)))|refine kW cfg_ok ?_|refine kC ?_|refine bdA ?_|refine bd2 ?_|refine bdR ?_|refine bdL ?_)<;>((try with_reducible refine evCut fun N hN hE hT=>?_);(conv=>whnf)))|(refine And.intro ?_ ?_;rotate_left;(conv=>whnf);rotate_right))
         all_goals first|rfl|omega|trace_state
       · have hrq:=hr2 e1 e2 (fun h=>e3 h.2) (fun h=>e5 h.2)
         subst hrq
         clear hr2
         conv=>whnf
         repeat' (first|exact trivial|((first|((first|refine hT _ _ ?_|refine hE _ _ _ ?_|refine hN _ _ ?_);clear hN hE hT)|refine kL ?_|(refine ⟨fun hb=>?_,fun hb=>?_⟩<;>(try simp only [nrm] at hb)<;>(try (first|(exfalso;omega)|contradiction|exact kB hb)))|refine kA hpn ?_|refine kD hpn ?_|refine kA hs ?_|refine kD hs ?_|refine kW cfg_ok ?_|refine kC ?_|refine bdA ?_|refine bd2 ?_|refine bdR ?_|refine bdL ?_)<;>((try with_reducible refine evCut fun N hN hE hT=>?_);(conv=>whnf)))|(refine And.intro ?_ ?_;rotate_left;(conv=>whnf);rotate_right))
         refine .to (k + 1) hlt (by omega) ?_
         conv=>whnf
         repeat' (first|exact trivial|((first|((first|refine hT _ _ ?_|refine hE _ _ _ ?_|refine hN _ _ ?_);clear hN hE hT)|refine kL ?_|(refine ⟨fun hb=>?_,fun hb=>?_⟩<;>(try simp only [nrm] at hb)<;>(try (first|(exfalso;omega)|contradiction|exact kB hb)))|refine kW cfg_ok ?_|refine kC ?_|refine bdA ?_|refine bd2 ?_|refine bdR ?_|refine bdL ?_)<;>((try with_reducible refine evCut fun N hN hE hT=>?_);(conv=>whnf)))|(refine And.intro ?_ ?_;rotate_left;(conv=>whnf);rotate_right))
         all_goals first|rfl|omega|trace_state
     · have hrq:=hr2 e1 e2 (fun h=>e3 h.2) (fun h=>e4 h.1)
       subst hrq
       clear hr2
       conv=>whnf
       repeat' (first|exact trivial|((first|((first|refine hT _ _ ?_|refine hE _ _ _ ?_|refine hN _ _ ?_);clear hN hE hT)|refine kL ?_|(refine ⟨fun hb=>?_,fun hb=>?_⟩<;>(try simp only [nrm] at hb)<;>(try (first|(exfalso;omega)|contradiction|exact kB hb)))|refine kA hpn ?_|refine kD hpn ?_|refine kA hs ?_|refine kD hs ?_|refine kW cfg_ok ?_|refine kC ?_|refine bdA ?_|refine bd2 ?_|refine bdR ?_|refine bdL ?_)<;>((try with_reducible refine evCut fun N hN hE hT=>?_);(conv=>whnf)))|(refine And.intro ?_ ?_;rotate_left;(conv=>whnf);rotate_right))
       refine .to (k + 1) hlt (by omega) ?_
       conv=>whnf
       repeat' (first|exact trivial|((first|((first|refine hT _ _ ?_|refine hE _ _ _ ?_|refine hN _ _ ?_);clear hN hE hT)|refine kL ?_|(refine ⟨fun hb=>?_,fun hb=>?_⟩<;>(try simp only [nrm] at hb)<;>(try (first|(exfalso;omega)|contradiction|exact kB hb)))|refine kW cfg_ok ?_|refine kC ?_|refine bdA ?_|refine bd2 ?_|refine bdR ?_|refine bdL ?_)<;>((try with_reducible refine evCut fun N hN hE hT=>?_);(conv=>whnf)))|(refine And.intro ?_ ?_;rotate_left;(conv=>whnf);rotate_right))
       all_goals first|rfl|omega|trace_state
   · obtain rfl : k = w.players.length:=by omega
     clear hfp hsp
     conv=>whnf
     repeat' (first|exact trivial|((first|((first|refine hT _ _ ?_|refine hE _ _ _ ?_|refine hN _ _ ?_);clear hN hE hT)|refine kL ?_|(refine ⟨fun hb=>?_,fun hb=>?_⟩<;>(try simp only [nrm] at hb)<;>(try (first|(exfalso;omega)|contradiction|exact kB hb)))|refine kA haw ?_|refine kD haw ?_|refine kW cfg_ok ?_|refine kC ?_|refine bdA ?_|refine bd2 ?_|refine bdR ?_|refine bdL ?_)<;>((try with_reducible refine evCut fun N hN hE hT=>?_);(conv=>whnf)))|(refine And.intro ?_ ?_;rotate_left;(conv=>whnf);rotate_right))
     all_goals first|rfl|omega|trace_state
open Go Go.RowKit Eng
theorem rfar_east (w n : Wld) (id : Int) (c : Cmd) (x0 x1 x y e : Int) (P : Player) (B : Bool) (K1 K2 : Chunk) (B1 B2 : Bool) (hd : 0 ≤ c.dol ∧ c.dol ≤ 255) (hx : 0 ≤ x ∧ x < 16) (hy : 0 ≤ y ∧ y < 16) (hpb : B = true → 0 ≤ P.x ∧ P.x ≤ 200 ∧ 0 ≤ P.y ∧ P.y ≤ 200) (hnp : w.players.length ≤ 32) (hB : B = true) (hd1 : 8 * x ≤ P.x + 3) (hd2 : 8 * x + 8 ≤ P.x - 3) (hF : FarG w n id c x0 x1 x y e P B K1 K2 B1 B2) (hsm : Api Tryz.prog 32 [chunkV K1,chunkV K2] (bol true)) : Api Tryz.prog 4 [wldV w,dooA id c,.agg [i64 x0,i64 x1]] (bol true):=by
 have haw:=awake16_api
 obtain ⟨hse,hpx,hpy,hpl,hap,hch,hcn,hfp,hsp⟩:=hF
 subst hB
 have hpb2:=hpb rfl
 refine Api.of_fin cfg_ok Tryz.func4 rfl (nt:=171) rfl rfl ?_
 ((try with_reducible refine evCut fun N hN hE hT=>?_);(conv=>whnf))
 repeat' (first|exact trivial|((first|((first|refine hT _ _ ?_|refine hE _ _ _ ?_|refine hN _ _ ?_);clear hN hE hT)|refine kL ?_|(refine ⟨fun hb=>?_,fun hb=>?_⟩<;>(try simp only [nrm] at hb)<;>(try (first|(exfalso;omega)|contradiction|exact kB hb)))|refine kA hse ?_|refine kD hse ?_|refine kA hpx ?_|refine kD hpx ?_|refine kA hpy ?_|refine kD hpy ?_|refine kA hpl ?_|refine kD hpl ?_|refine kA hap ?_|refine kD hap ?_|refine kA hch ?_|refine kD hch ?_|refine kA hcn ?_|refine kD hcn ?_|refine kA hsm ?_|refine kD hsm ?_|refine kW cfg_ok ?_|refine kC ?_|refine bdA ?_|refine bd2 ?_|refine bdR ?_|refine bdL ?_)<;>((try with_reducible refine evCut fun N hN hE hT=>?_);(conv=>whnf)))|(refine And.intro ?_ ?_;rotate_left;(conv=>whnf);rotate_right))
 refine Runs.loopQ cfg_ok (σ:=Nat) [4,9,10,12,111,112,113] (fun k=>[.ptr 8 0,.ptr 18 0,bol true,.ptr 24 0,.vec .player w.players,i64 w.players.length,i64 k]) (fun _=>[(8,.box [i64 id,.lit (.int .u8 c.dol),i64 c.a,i64 c.b,i64 c.c,i64 c.n]),(18,.box (playerC P)),(24,.box (wldC n))]) (fun k=>k ≤ w.players.length) (fun k=>w.players.length - k) 0 (by omega) ?_ ?_
 · conv=>whnf
   repeat' (first|exact trivial|((first|((first|refine hT _ _ ?_|refine hE _ _ _ ?_|refine hN _ _ ?_);clear hN hE hT)|refine kL ?_|(refine ⟨fun hb=>?_,fun hb=>?_⟩<;>(try simp only [nrm] at hb)<;>(try (first|(exfalso;omega)|contradiction|exact kB hb)))|refine kW cfg_ok ?_|refine kC ?_|refine bdA ?_|refine bd2 ?_|refine bdR ?_|refine bdL ?_)<;>((try with_reducible refine evCut fun N hN hE hT=>?_);(conv=>whnf)))|(refine And.intro ?_ ?_;rotate_left;(conv=>whnf);rotate_right))
   all_goals first|rfl|omega|trace_state
 · intro k hk N hN hE hT
   clear hse hpx hpy hpl hap hch hcn
   by_cases hlt : k < w.players.length
   · have hqm : elt .player w.players ((k : Nat) : Int).toNat ∈ w.players:=by rw [Int.toNat_natCast];exact elt_mem (t:=.player) hlt
     obtain ⟨r,hpn,hr2⟩:=hfp _ hqm
     have hs:=hsp _ hqm
     clear hfp hsp
     by_cases e1 : (elt .player w.players ((k : Nat) : Int).toNat).id = id
     · clear hs hr2
       conv=>whnf
       repeat' (first|exact trivial|((first|((first|refine hT _ _ ?_|refine hE _ _ _ ?_|refine hN _ _ ?_);clear hN hE hT)|refine kL ?_|(refine ⟨fun hb=>?_,fun hb=>?_⟩<;>(try simp only [nrm] at hb)<;>(try (first|(exfalso;omega)|contradiction|exact kB hb)))|refine kA hpn ?_|refine kD hpn ?_|refine kW cfg_ok ?_|refine kC ?_|refine bdA ?_|refine bd2 ?_|refine bdR ?_|refine bdL ?_)<;>((try with_reducible refine evCut fun N hN hE hT=>?_);(conv=>whnf)))|(refine And.intro ?_ ?_;rotate_left;(conv=>whnf);rotate_right))
       refine .to (k + 1) hlt (by omega) ?_
       conv=>whnf
       repeat' (first|exact trivial|((first|((first|refine hT _ _ ?_|refine hE _ _ _ ?_|refine hN _ _ ?_);clear hN hE hT)|refine kL ?_|(refine ⟨fun hb=>?_,fun hb=>?_⟩<;>(try simp only [nrm] at hb)<;>(try (first|(exfalso;omega)|contradiction|exact kB hb)))|refine kW cfg_ok ?_|refine kC ?_|refine bdA ?_|refine bd2 ?_|refine bdR ?_|refine bdL ?_)<;>((try with_reducible refine evCut fun N hN hE hT=>?_);(conv=>whnf)))|(refine And.intro ?_ ?_;rotate_left;(conv=>whnf);rotate_right))
       all_goals first|rfl|omega|trace_state
     by_cases e2 : (elt .player w.players ((k : Nat) : Int).toNat).wth = id
     · clear hs hr2
       conv=>whnf
       repeat' (first|exact trivial|((first|((first|refine hT _ _ ?_|refine hE _ _ _ ?_|refine hN _ _ ?_);clear hN hE hT)|refine kL ?_|(refine ⟨fun hb=>?_,fun hb=>?_⟩<;>(try simp only [nrm] at hb)<;>(try (first|(exfalso;omega)|contradiction|exact kB hb)))|refine kA hpn ?_|refine kD hpn ?_|refine kW cfg_ok ?_|refine kC ?_|refine bdA ?_|refine bd2 ?_|refine bdR ?_|refine bdL ?_)<;>((try with_reducible refine evCut fun N hN hE hT=>?_);(conv=>whnf)))|(refine And.intro ?_ ?_;rotate_left;(conv=>whnf);rotate_right))
       refine .to (k + 1) hlt (by omega) ?_
       conv=>whnf
       repeat' (first|exact trivial|((first|((first|refine hT _ _ ?_|refine hE _ _ _ ?_|refine hN _ _ ?_);clear hN hE hT)|refine kL ?_|(refine ⟨fun hb=>?_,fun hb=>?_⟩<;>(try simp only [nrm] at hb)<;>(try (first|(exfalso;omega)|contradiction|exact kB hb)))|refine kW cfg_ok ?_|refine kC ?_|refine bdA ?_|refine bd2 ?_|refine bdR ?_|refine bdL ?_)<;>((try with_reducible refine evCut fun N hN hE hT=>?_);(conv=>whnf)))|(refine And.intro ?_ ?_;rotate_left;(conv=>whnf);rotate_right))
       all_goals first|rfl|omega|trace_state
     by_cases e3 : P.wth = (elt .player w.players ((k : Nat) : Int).toNat).id
     · clear hs hr2
       conv=>whnf
       repeat' (first|exact trivial|((first|((first|refine hT _ _ ?_|refine hE _ _ _ ?_|refine hN _ _ ?_);clear hN hE hT)|refine kL ?_|(refine ⟨fun hb=>?_,fun hb=>?_⟩<;>(try simp only [nrm] at hb)<;>(try (first|(exfalso;omega)|contradiction|exact kB hb)))|refine kA hpn ?_|refine kD hpn ?_|refine kW cfg_ok ?_|refine kC ?_|refine bdA ?_|refine bd2 ?_|refine bdR ?_|refine bdL ?_)<;>((try with_reducible refine evCut fun N hN hE hT=>?_);(conv=>whnf)))|(refine And.intro ?_ ?_;rotate_left;(conv=>whnf);rotate_right))
       refine .to (k + 1) hlt (by omega) ?_
       conv=>whnf
       repeat' (first|exact trivial|((first|((first|refine hT _ _ ?_|refine hE _ _ _ ?_|refine hN _ _ ?_);clear hN hE hT)|refine kL ?_|(refine ⟨fun hb=>?_,fun hb=>?_⟩<;>(try simp only [nrm] at hb)<;>(try (first|(exfalso;omega)|contradiction|exact kB hb)))|refine kW cfg_ok ?_|refine kC ?_|refine bdA ?_|refine bd2 ?_|refine bdR ?_|refine bdL ?_)<;>((try with_reducible refine evCut fun N hN hE hT=>?_);(conv=>whnf)))|(refine And.intro ?_ ?_;rotate_left;(conv=>whnf);rotate_right))
       all_goals first|rfl|omega|trace_state
     by_cases e4 : c.dol = 11
     · by_cases e5 : c.a = (elt .player w.players ((k : Nat) : Int).toNat).id
       · clear hs hr2
         conv=>whnf
         repeat' (first|exact trivial|((first|((first|refine hT _ _ ?_|refine hE _ _ _ ?_|refine hN _ _ ?_);clear hN hE hT)|refine kL ?_|(refine ⟨fun hb=>?_,fun hb=>?_⟩<;>(try simp only [nrm] at hb)<;>(try (first|(exfalso;omega)|contradiction|exact kB hb)))|refine kA hpn ?_|refine kD hpn ?_|refine kW cfg_ok ?_|refine kC ?_|refine bdA ?_|refine bd2 ?_|refine bdR ?_|refine bdL ?_)<;>((try with_reducible refine evCut fun N hN hE hT=>?_);(conv=>whnf)))|(refine And.intro ?_ ?_;rotate_left;(conv=>whnf);rotate_right))
         refine .to (k + 1) hlt (by omega) ?_
         conv=>whnf
         repeat' (first|exact trivial|((first|((first|refine hT _ _ ?_|refine hE _ _ _ ?_|refine hN _ _ ?_);clear hN hE hT)|refine kL ?_|(refine ⟨fun hb=>?_,fun hb=>?_⟩<;>(try simp only [nrm] at hb)<;>(try (first|(exfalso;omega)|contradiction|exact kB hb)))|refine kW cfg_ok ?_|refine kC ?_|refine bdA ?_|refine bd2 ?_|refine bdR ?_|refine bdL ?_)<;>((try with_reducible refine evCut fun N hN hE hT=>?_);(conv=>whnf)))|(refine And.intro ?_ ?_;rotate_left;(conv=>whnf);rotate_right))
         all_goals first|rfl|omega|trace_state
       · have hrq:=hr2 e1 e2 (fun h=>e3 h.2) (fun h=>e5 h.2)
         subst hrq
         clear hr2
         conv=>whnf
         repeat' (first|exact trivial|((first|((first|refine hT _ _ ?_|refine hE _ _ _ ?_|refine hN _ _ ?_);clear hN hE hT)|refine kL ?_|(refine ⟨fun hb=>?_,fun hb=>?_⟩<;>(try simp only [nrm] at hb)<;>(try (first|(exfalso;omega)|contradiction|exact kB hb)))|refine kA hpn ?_|refine kD hpn ?_|refine kA hs ?_|refine kD hs ?_|refine kW cfg_ok ?_|refine kC ?_|refine bdA ?_|refine bd2 ?_|refine bdR ?_|refine bdL ?_)<;>((try with_reducible refine evCut fun N hN hE hT=>?_);(conv=>whnf)))|(refine And.intro ?_ ?_;rotate_left;(conv=>whnf);rotate_right))
         refine .to (k + 1) hlt (by omega) ?_
         conv=>whnf
         repeat' (first|exact trivial|((first|((first|refine hT _ _ ?_|refine hE _ _ _ ?_|refine hN _ _ ?_);clear hN hE hT)|refine kL ?_|(refine ⟨fun hb=>?_,fun hb=>?_⟩<;>(try simp only [nrm] at hb)<;>(try (first|(exfalso;omega)|contradiction|exact kB hb)))|refine kW cfg_ok ?_|refine kC ?_|refine bdA ?_|refine bd2 ?_|refine bdR ?_|refine bdL ?_)<;>((try with_reducible refine evCut fun N hN hE hT=>?_);(conv=>whnf)))|(refine And.intro ?_ ?_;rotate_left;(conv=>whnf);rotate_right))
         all_goals first|rfl|omega|trace_state
     · have hrq:=hr2 e1 e2 (fun h=>e3 h.2) (fun h=>e4 h.1)
       subst hrq
       clear hr2
       conv=>whnf
       repeat' (first|exact trivial|((first|((first|refine hT _ _ ?_|refine hE _ _ _ ?_|refine hN _ _ ?_);clear hN hE hT)|refine kL ?_|(refine ⟨fun hb=>?_,fun hb=>?_⟩<;>(try simp only [nrm] at hb)<;>(try (first|(exfalso;omega)|contradiction|exact kB hb)))|refine kA hpn ?_|refine kD hpn ?_|refine kA hs ?_|refine kD hs ?_|refine kW cfg_ok ?_|refine kC ?_|refine bdA ?_|refine bd2 ?_|refine bdR ?_|refine bdL ?_)<;>((try with_reducible refine evCut fun N hN hE hT=>?_);(conv=>whnf)))|(refine And.intro ?_ ?_;rotate_left;(conv=>whnf);rotate_right))
       refine .to (k + 1) hlt (by omega) ?_
       conv=>whnf
       repeat' (first|exact trivial|((first|((first|refine hT _ _ ?_|refine hE _ _ _ ?_|refine hN _ _ ?_);clear hN hE hT)|refine kL ?_|(refine ⟨fun hb=>?_,fun hb=>?_⟩<;>(try simp only [nrm] at hb)<;>(try (first|(exfalso;omega)|contradiction|exact kB hb)))|refine kW cfg_ok ?_|refine kC ?_|refine bdA ?_|refine bd2 ?_|refine bdR ?_|refine bdL ?_)<;>((try with_reducible refine evCut fun N hN hE hT=>?_);(conv=>whnf)))|(refine And.intro ?_ ?_;rotate_left;(conv=>whnf);rotate_right))
       all_goals first|rfl|omega|trace_state
   · obtain rfl : k = w.players.length:=by omega
     clear hfp hsp
     conv=>whnf
     repeat' (first|exact trivial|((first|((first|refine hT _ _ ?_|refine hE _ _ _ ?_|refine hN _ _ ?_);clear hN hE hT)|refine kL ?_|(refine ⟨fun hb=>?_,fun hb=>?_⟩<;>(try simp only [nrm] at hb)<;>(try (first|(exfalso;omega)|contradiction|exact kB hb)))|refine kA haw ?_|refine kD haw ?_|refine kW cfg_ok ?_|refine kC ?_|refine bdA ?_|refine bd2 ?_|refine bdR ?_|refine bdL ?_)<;>((try with_reducible refine evCut fun N hN hE hT=>?_);(conv=>whnf)))|(refine And.intro ?_ ?_;rotate_left;(conv=>whnf);rotate_right))
     all_goals first|rfl|omega|trace_state
open Go Go.RowKit Eng
theorem rfar_north (w n : Wld) (id : Int) (c : Cmd) (x0 x1 x y e : Int) (P : Player) (B : Bool) (K1 K2 : Chunk) (B1 B2 : Bool) (hd : 0 ≤ c.dol ∧ c.dol ≤ 255) (hx : 0 ≤ x ∧ x < 16) (hy : 0 ≤ y ∧ y < 16) (hpb : B = true → 0 ≤ P.x ∧ P.x ≤ 200 ∧ 0 ≤ P.y ∧ P.y ≤ 200) (hnp : w.players.length ≤ 32) (hB : B = true) (hd1 : 8 * x ≤ P.x + 3) (hd2 : P.x - 3 < 8 * x + 8) (hd3 : P.y + 3 < 8 * y) (hF : FarG w n id c x0 x1 x y e P B K1 K2 B1 B2) (hsm : Api Tryz.prog 32 [chunkV K1,chunkV K2] (bol true)) : Api Tryz.prog 4 [wldV w,dooA id c,.agg [i64 x0,i64 x1]] (bol true):=by
 have haw:=awake16_api
 obtain ⟨hse,hpx,hpy,hpl,hap,hch,hcn,hfp,hsp⟩:=hF
 subst hB
 have hpb2:=hpb rfl
 refine Api.of_fin cfg_ok Tryz.func4 rfl (nt:=171) rfl rfl ?_
 ((try with_reducible refine evCut fun N hN hE hT=>?_);(conv=>whnf))
 repeat' (first|exact trivial|((first|((first|refine hT _ _ ?_|refine hE _ _ _ ?_|refine hN _ _ ?_);clear hN hE hT)|refine kL ?_|(refine ⟨fun hb=>?_,fun hb=>?_⟩<;>(try simp only [nrm] at hb)<;>(try (first|(exfalso;omega)|contradiction|exact kB hb)))|refine kA hse ?_|refine kD hse ?_|refine kA hpx ?_|refine kD hpx ?_|refine kA hpy ?_|refine kD hpy ?_|refine kA hpl ?_|refine kD hpl ?_|refine kA hap ?_|refine kD hap ?_|refine kA hch ?_|refine kD hch ?_|refine kA hcn ?_|refine kD hcn ?_|refine kA hsm ?_|refine kD hsm ?_|refine kW cfg_ok ?_|refine kC ?_|refine bdA ?_|refine bd2 ?_|refine bdR ?_|refine bdL ?_)<;>((try with_reducible refine evCut fun N hN hE hT=>?_);(conv=>whnf)))|(refine And.intro ?_ ?_;rotate_left;(conv=>whnf);rotate_right))
 refine Runs.loopQ cfg_ok (σ:=Nat) [4,9,10,12,111,112,113] (fun k=>[.ptr 8 0,.ptr 18 0,bol true,.ptr 24 0,.vec .player w.players,i64 w.players.length,i64 k]) (fun _=>[(8,.box [i64 id,.lit (.int .u8 c.dol),i64 c.a,i64 c.b,i64 c.c,i64 c.n]),(18,.box (playerC P)),(24,.box (wldC n))]) (fun k=>k ≤ w.players.length) (fun k=>w.players.length - k) 0 (by omega) ?_ ?_
 · conv=>whnf
   repeat' (first|exact trivial|((first|((first|refine hT _ _ ?_|refine hE _ _ _ ?_|refine hN _ _ ?_);clear hN hE hT)|refine kL ?_|(refine ⟨fun hb=>?_,fun hb=>?_⟩<;>(try simp only [nrm] at hb)<;>(try (first|(exfalso;omega)|contradiction|exact kB hb)))|refine kW cfg_ok ?_|refine kC ?_|refine bdA ?_|refine bd2 ?_|refine bdR ?_|refine bdL ?_)<;>((try with_reducible refine evCut fun N hN hE hT=>?_);(conv=>whnf)))|(refine And.intro ?_ ?_;rotate_left;(conv=>whnf);rotate_right))
   all_goals first|rfl|omega|trace_state
 · intro k hk N hN hE hT
   clear hse hpx hpy hpl hap hch hcn
   by_cases hlt : k < w.players.length
   · have hqm : elt .player w.players ((k : Nat) : Int).toNat ∈ w.players:=by rw [Int.toNat_natCast];exact elt_mem (t:=.player) hlt
     obtain ⟨r,hpn,hr2⟩:=hfp _ hqm
     have hs:=hsp _ hqm
     clear hfp hsp
     by_cases e1 : (elt .player w.players ((k : Nat) : Int).toNat).id = id
     · clear hs hr2
       conv=>whnf
       repeat' (first|exact trivial|((first|((first|refine hT _ _ ?_|refine hE _ _ _ ?_|refine hN _ _ ?_);clear hN hE hT)|refine kL ?_|(refine ⟨fun hb=>?_,fun hb=>?_⟩<;>(try simp only [nrm] at hb)<;>(try (first|(exfalso;omega)|contradiction|exact kB hb)))|refine kA hpn ?_|refine kD hpn ?_|refine kW cfg_ok ?_|refine kC ?_|refine bdA ?_|refine bd2 ?_|refine bdR ?_|refine bdL ?_)<;>((try with_reducible refine evCut fun N hN hE hT=>?_);(conv=>whnf)))|(refine And.intro ?_ ?_;rotate_left;(conv=>whnf);rotate_right))
       refine .to (k + 1) hlt (by omega) ?_
       conv=>whnf
       repeat' (first|exact trivial|((first|((first|refine hT _ _ ?_|refine hE _ _ _ ?_|refine hN _ _ ?_);clear hN hE hT)|refine kL ?_|(refine ⟨fun hb=>?_,fun hb=>?_⟩<;>(try simp only [nrm] at hb)<;>(try (first|(exfalso;omega)|contradiction|exact kB hb)))|refine kW cfg_ok ?_|refine kC ?_|refine bdA ?_|refine bd2 ?_|refine bdR ?_|refine bdL ?_)<;>((try with_reducible refine evCut fun N hN hE hT=>?_);(conv=>whnf)))|(refine And.intro ?_ ?_;rotate_left;(conv=>whnf);rotate_right))
       all_goals first|rfl|omega|trace_state
     by_cases e2 : (elt .player w.players ((k : Nat) : Int).toNat).wth = id
     · clear hs hr2
       conv=>whnf
       repeat' (first|exact trivial|((first|((first|refine hT _ _ ?_|refine hE _ _ _ ?_|refine hN _ _ ?_);clear hN hE hT)|refine kL ?_|(refine ⟨fun hb=>?_,fun hb=>?_⟩<;>(try simp only [nrm] at hb)<;>(try (first|(exfalso;omega)|contradiction|exact kB hb)))|refine kA hpn ?_|refine kD hpn ?_|refine kW cfg_ok ?_|refine kC ?_|refine bdA ?_|refine bd2 ?_|refine bdR ?_|refine bdL ?_)<;>((try with_reducible refine evCut fun N hN hE hT=>?_);(conv=>whnf)))|(refine And.intro ?_ ?_;rotate_left;(conv=>whnf);rotate_right))
       refine .to (k + 1) hlt (by omega) ?_
       conv=>whnf
       repeat' (first|exact trivial|((first|((first|refine hT _ _ ?_|refine hE _ _ _ ?_|refine hN _ _ ?_);clear hN hE hT)|refine kL ?_|(refine ⟨fun hb=>?_,fun hb=>?_⟩<;>(try simp only [nrm] at hb)<;>(try (first|(exfalso;omega)|contradiction|exact kB hb)))|refine kW cfg_ok ?_|refine kC ?_|refine bdA ?_|refine bd2 ?_|refine bdR ?_|refine bdL ?_)<;>((try with_reducible refine evCut fun N hN hE hT=>?_);(conv=>whnf)))|(refine And.intro ?_ ?_;rotate_left;(conv=>whnf);rotate_right))
       all_goals first|rfl|omega|trace_state
     by_cases e3 : P.wth = (elt .player w.players ((k : Nat) : Int).toNat).id
     · clear hs hr2
       conv=>whnf
       repeat' (first|exact trivial|((first|((first|refine hT _ _ ?_|refine hE _ _ _ ?_|refine hN _ _ ?_);clear hN hE hT)|refine kL ?_|(refine ⟨fun hb=>?_,fun hb=>?_⟩<;>(try simp only [nrm] at hb)<;>(try (first|(exfalso;omega)|contradiction|exact kB hb)))|refine kA hpn ?_|refine kD hpn ?_|refine kW cfg_ok ?_|refine kC ?_|refine bdA ?_|refine bd2 ?_|refine bdR ?_|refine bdL ?_)<;>((try with_reducible refine evCut fun N hN hE hT=>?_);(conv=>whnf)))|(refine And.intro ?_ ?_;rotate_left;(conv=>whnf);rotate_right))
       refine .to (k + 1) hlt (by omega) ?_
       conv=>whnf
       repeat' (first|exact trivial|((first|((first|refine hT _ _ ?_|refine hE _ _ _ ?_|refine hN _ _ ?_);clear hN hE hT)|refine kL ?_|(refine ⟨fun hb=>?_,fun hb=>?_⟩<;>(try simp only [nrm] at hb)<;>(try (first|(exfalso;omega)|contradiction|exact kB hb)))|refine kW cfg_ok ?_|refine kC ?_|refine bdA ?_|refine bd2 ?_|refine bdR ?_|refine bdL ?_)<;>((try with_reducible refine evCut fun N hN hE hT=>?_);(conv=>whnf)))|(refine And.intro ?_ ?_;rotate_left;(conv=>whnf);rotate_right))
       all_goals first|rfl|omega|trace_state
     by_cases e4 : c.dol = 11
     · by_cases e5 : c.a = (elt .player w.players ((k : Nat) : Int).toNat).id
       · clear hs hr2
         conv=>whnf
         repeat' (first|exact trivial|((first|((first|refine hT _ _ ?_|refine hE _ _ _ ?_|refine hN _ _ ?_);clear hN hE hT)|refine kL ?_|(refine ⟨fun hb=>?_,fun hb=>?_⟩<;>(try simp only [nrm] at hb)<;>(try (first|(exfalso;omega)|contradiction|exact kB hb)))|refine kA hpn ?_|refine kD hpn ?_|refine kW cfg_ok ?_|refine kC ?_|refine bdA ?_|refine bd2 ?_|refine bdR ?_|refine bdL ?_)<;>((try with_reducible refine evCut fun N hN hE hT=>?_);(conv=>whnf)))|(refine And.intro ?_ ?_;rotate_left;(conv=>whnf);rotate_right))
         refine .to (k + 1) hlt (by omega) ?_
         conv=>whnf
         repeat' (first|exact trivial|((first|((first|refine hT _ _ ?_|refine hE _ _ _ ?_|refine hN _ _ ?_);clear hN hE hT)|refine kL ?_|(refine ⟨fun hb=>?_,fun hb=>?_⟩<;>(try simp only [nrm] at hb)<;>(try (first|(exfalso;omega)|contradiction|exact kB hb)))|refine kW cfg_ok ?_|refine kC ?_|refine bdA ?_|refine bd2 ?_|refine bdR ?_|refine bdL ?_)<;>((try with_reducible refine evCut fun N hN hE hT=>?_);(conv=>whnf)))|(refine And.intro ?_ ?_;rotate_left;(conv=>whnf);rotate_right))
         all_goals first|rfl|omega|trace_state
       · have hrq:=hr2 e1 e2 (fun h=>e3 h.2) (fun h=>e5 h.2)
         subst hrq
         clear hr2
         conv=>whnf
         repeat' (first|exact trivial|((first|((first|refine hT _ _ ?_|refine hE _ _ _ ?_|refine hN _ _ ?_);clear hN hE hT)|refine kL ?_|(refine ⟨fun hb=>?_,fun hb=>?_⟩<;>(try simp only [nrm] at hb)<;>(try (first|(exfalso;omega)|contradiction|exact kB hb)))|refine kA hpn ?_|refine kD hpn ?_|refine kA hs ?_|refine kD hs ?_|refine kW cfg_ok ?_|refine kC ?_|refine bdA ?_|refine bd2 ?_|refine bdR ?_|refine bdL ?_)<;>((try with_reducible refine evCut fun N hN hE hT=>?_);(conv=>whnf)))|(refine And.intro ?_ ?_;rotate_left;(conv=>whnf);rotate_right))
         refine .to (k + 1) hlt (by omega) ?_
         conv=>whnf
         repeat' (first|exact trivial|((first|((first|refine hT _ _ ?_|refine hE _ _ _ ?_|refine hN _ _ ?_);clear hN hE hT)|refine kL ?_|(refine ⟨fun hb=>?_,fun hb=>?_⟩<;>(try simp only [nrm] at hb)<;>(try (first|(exfalso;omega)|contradiction|exact kB hb)))|refine kW cfg_ok ?_|refine kC ?_|refine bdA ?_|refine bd2 ?_|refine bdR ?_|refine bdL ?_)<;>((try with_reducible refine evCut fun N hN hE hT=>?_);(conv=>whnf)))|(refine And.intro ?_ ?_;rotate_left;(conv=>whnf);rotate_right))
         all_goals first|rfl|omega|trace_state
     · have hrq:=hr2 e1 e2 (fun h=>e3 h.2) (fun h=>e4 h.1)
       subst hrq
       clear hr2
       conv=>whnf
       repeat' (first|exact trivial|((first|((first|refine hT _ _ ?_|refine hE _ _ _ ?_|refine hN _ _ ?_);clear hN hE hT)|refine kL ?_|(refine ⟨fun hb=>?_,fun hb=>?_⟩<;>(try simp only [nrm] at hb)<;>(try (first|(exfalso;omega)|contradiction|exact kB hb)))|refine kA hpn ?_|refine kD hpn ?_|refine kA hs ?_|refine kD hs ?_|refine kW cfg_ok ?_|refine kC ?_|refine bdA ?_|refine bd2 ?_|refine bdR ?_|refine bdL ?_)<;>((try with_reducible refine evCut fun N hN hE hT=>?_);(conv=>whnf)))|(refine And.intro ?_ ?_;rotate_left;(conv=>whnf);rotate_right))
       refine .to (k + 1) hlt (by omega) ?_
       conv=>whnf
       repeat' (first|exact trivial|((first|((first|refine hT _ _ ?_|refine hE _ _ _ ?_|refine hN _ _ ?_);clear hN hE hT)|refine kL ?_|(refine ⟨fun hb=>?_,fun hb=>?_⟩<;>(try simp only [nrm] at hb)<;>(try (first|(exfalso;omega)|contradiction|exact kB hb)))|refine kW cfg_ok ?_|refine kC ?_|refine bdA ?_|refine bd2 ?_|refine bdR ?_|refine bdL ?_)<;>((try with_reducible refine evCut fun N hN hE hT=>?_);(conv=>whnf)))|(refine And.intro ?_ ?_;rotate_left;(conv=>whnf);rotate_right))
       all_goals first|rfl|omega|trace_state
   · obtain rfl : k = w.players.length:=by omega
     clear hfp hsp
     conv=>whnf
     repeat' (first|exact trivial|((first|((first|refine hT _ _ ?_|refine hE _ _ _ ?_|refine hN _ _ ?_);clear hN hE hT)|refine kL ?_|(refine ⟨fun hb=>?_,fun hb=>?_⟩<;>(try simp only [nrm] at hb)<;>(try (first|(exfalso;omega)|contradiction|exact kB hb)))|refine kA haw ?_|refine kD haw ?_|refine kW cfg_ok ?_|refine kC ?_|refine bdA ?_|refine bd2 ?_|refine bdR ?_|refine bdL ?_)<;>((try with_reducible refine evCut fun N hN hE hT=>?_);(conv=>whnf)))|(refine And.intro ?_ ?_;rotate_left;(conv=>whnf);rotate_right))
     all_goals first|rfl|omega|trace_state
open Go Go.RowKit Eng
theorem rfar_south (w n : Wld) (id : Int) (c : Cmd) (x0 x1 x y e : Int) (P : Player) (B : Bool) (K1 K2 : Chunk) (B1 B2 : Bool) (hd : 0 ≤ c.dol ∧ c.dol ≤ 255) (hx : 0 ≤ x ∧ x < 16) (hy : 0 ≤ y ∧ y < 16) (hpb : B = true → 0 ≤ P.x ∧ P.x ≤ 200 ∧ 0 ≤ P.y ∧ P.y ≤ 200) (hnp : w.players.length ≤ 32) (hB : B = true) (hd1 : 8 * x ≤ P.x + 3) (hd2 : P.x - 3 < 8 * x + 8) (hd3 : 8 * y ≤ P.y + 3) (hd4 : 8 * y + 8 ≤ P.y - 3) (hF : FarG w n id c x0 x1 x y e P B K1 K2 B1 B2) (hsm : Api Tryz.prog 32 [chunkV K1,chunkV K2] (bol true)) : Api Tryz.prog 4 [wldV w,dooA id c,.agg [i64 x0,i64 x1]] (bol true):=by
 have haw:=awake16_api
 obtain ⟨hse,hpx,hpy,hpl,hap,hch,hcn,hfp,hsp⟩:=hF
 subst hB
 have hpb2:=hpb rfl
 refine Api.of_fin cfg_ok Tryz.func4 rfl (nt:=171) rfl rfl ?_
 ((try with_reducible refine evCut fun N hN hE hT=>?_);(conv=>whnf))
 repeat' (first|exact trivial|((first|((first|refine hT _ _ ?_|refine hE _ _ _ ?_|refine hN _ _ ?_);clear hN hE hT)|refine kL ?_|(refine ⟨fun hb=>?_,fun hb=>?_⟩<;>(try simp only [nrm] at hb)<;>(try (first|(exfalso;omega)|contradiction|exact kB hb)))|refine kA hse ?_|refine kD hse ?_|refine kA hpx ?_|refine kD hpx ?_|refine kA hpy ?_|refine kD hpy ?_|refine kA hpl ?_|refine kD hpl ?_|refine kA hap ?_|refine kD hap ?_|refine kA hch ?_|refine kD hch ?_|refine kA hcn ?_|refine kD hcn ?_|refine kA hsm ?_|refine kD hsm ?_|refine kW cfg_ok ?_|refine kC ?_|refine bdA ?_|refine bd2 ?_|refine bdR ?_|refine bdL ?_)<;>((try with_reducible refine evCut fun N hN hE hT=>?_);(conv=>whnf)))|(refine And.intro ?_ ?_;rotate_left;(conv=>whnf);rotate_right))
 refine Runs.loopQ cfg_ok (σ:=Nat) [4,9,10,12,111,112,113] (fun k=>[.ptr 8 0,.ptr 18 0,bol true,.ptr 24 0,.vec .player w.players,i64 w.players.length,i64 k]) (fun _=>[(8,.box [i64 id,.lit (.int .u8 c.dol),i64 c.a,i64 c.b,i64 c.c,i64 c.n]),(18,.box (playerC P)),(24,.box (wldC n))]) (fun k=>k ≤ w.players.length) (fun k=>w.players.length - k) 0 (by omega) ?_ ?_
 · conv=>whnf
   repeat' (first|exact trivial|((first|((first|refine hT _ _ ?_|refine hE _ _ _ ?_|refine hN _ _ ?_);clear hN hE hT)|refine kL ?_|(refine ⟨fun hb=>?_,fun hb=>?_⟩<;>(try simp only [nrm] at hb)<;>(try (first|(exfalso;omega)|contradiction|exact kB hb)))|refine kW cfg_ok ?_|refine kC ?_|refine bdA ?_|refine bd2 ?_|refine bdR ?_|refine bdL ?_)<;>((try with_reducible refine evCut fun N hN hE hT=>?_);(conv=>whnf)))|(refine And.intro ?_ ?_;rotate_left;(conv=>whnf);rotate_right))
   all_goals first|rfl|omega|trace_state
 · intro k hk N hN hE hT
   clear hse hpx hpy hpl hap hch hcn
   by_cases hlt : k < w.players.length
   · have hqm : elt .player w.players ((k : Nat) : Int).toNat ∈ w.players:=by rw [Int.toNat_natCast];exact elt_mem (t:=.player) hlt
     obtain ⟨r,hpn,hr2⟩:=hfp _ hqm
     have hs:=hsp _ hqm
     clear hfp hsp
     by_cases e1 : (elt .player w.players ((k : Nat) : Int).toNat).id = id
     · clear hs hr2
       conv=>whnf
       repeat' (first|exact trivial|((first|((first|refine hT _ _ ?_|refine hE _ _ _ ?_|refine hN _ _ ?_);clear hN hE hT)|refine kL ?_|(refine ⟨fun hb=>?_,fun hb=>?_⟩<;>(try simp only [nrm] at hb)<;>(try (first|(exfalso;omega)|contradiction|exact kB hb)))|refine kA hpn ?_|refine kD hpn ?_|refine kW cfg_ok ?_|refine kC ?_|refine bdA ?_|refine bd2 ?_|refine bdR ?_|refine bdL ?_)<;>((try with_reducible refine evCut fun N hN hE hT=>?_);(conv=>whnf)))|(refine And.intro ?_ ?_;rotate_left;(conv=>whnf);rotate_right))
       refine .to (k + 1) hlt (by omega) ?_
       conv=>whnf
       repeat' (first|exact trivial|((first|((first|refine hT _ _ ?_|refine hE _ _ _ ?_|refine hN _ _ ?_);clear hN hE hT)|refine kL ?_|(refine ⟨fun hb=>?_,fun hb=>?_⟩<;>(try simp only [nrm] at hb)<;>(try (first|(exfalso;omega)|contradiction|exact kB hb)))|refine kW cfg_ok ?_|refine kC ?_|refine bdA ?_|refine bd2 ?_|refine bdR ?_|refine bdL ?_)<;>((try with_reducible refine evCut fun N hN hE hT=>?_);(conv=>whnf)))|(refine And.intro ?_ ?_;rotate_left;(conv=>whnf);rotate_right))
       all_goals first|rfl|omega|trace_state
     by_cases e2 : (elt .player w.players ((k : Nat) : Int).toNat).wth = id
     · clear hs hr2
       conv=>whnf
       repeat' (first|exact trivial|((first|((first|refine hT _ _ ?_|refine hE _ _ _ ?_|refine hN _ _ ?_);clear hN hE hT)|refine kL ?_|(refine ⟨fun hb=>?_,fun hb=>?_⟩<;>(try simp only [nrm] at hb)<;>(try (first|(exfalso;omega)|contradiction|exact kB hb)))|refine kA hpn ?_|refine kD hpn ?_|refine kW cfg_ok ?_|refine kC ?_|refine bdA ?_|refine bd2 ?_|refine bdR ?_|refine bdL ?_)<;>((try with_reducible refine evCut fun N hN hE hT=>?_);(conv=>whnf)))|(refine And.intro ?_ ?_;rotate_left;(conv=>whnf);rotate_right))
       refine .to (k + 1) hlt (by omega) ?_
       conv=>whnf
       repeat' (first|exact trivial|((first|((first|refine hT _ _ ?_|refine hE _ _ _ ?_|refine hN _ _ ?_);clear hN hE hT)|refine kL ?_|(refine ⟨fun hb=>?_,fun hb=>?_⟩<;>(try simp only [nrm] at hb)<;>(try (first|(exfalso;omega)|contradiction|exact kB hb)))|refine kW cfg_ok ?_|refine kC ?_|refine bdA ?_|refine bd2 ?_|refine bdR ?_|refine bdL ?_)<;>((try with_reducible refine evCut fun N hN hE hT=>?_);(conv=>whnf)))|(refine And.intro ?_ ?_;rotate_left;(conv=>whnf);rotate_right))
       all_goals first|rfl|omega|trace_state
     by_cases e3 : P.wth = (elt .player w.players ((k : Nat) : Int).toNat).id
     · clear hs hr2
       conv=>whnf
       repeat' (first|exact trivial|((first|((first|refine hT _ _ ?_|refine hE _ _ _ ?_|refine hN _ _ ?_);clear hN hE hT)|refine kL ?_|(refine ⟨fun hb=>?_,fun hb=>?_⟩<;>(try simp only [nrm] at hb)<;>(try (first|(exfalso;omega)|contradiction|exact kB hb)))|refine kA hpn ?_|refine kD hpn ?_|refine kW cfg_ok ?_|refine kC ?_|refine bdA ?_|refine bd2 ?_|refine bdR ?_|refine bdL ?_)<;>((try with_reducible refine evCut fun N hN hE hT=>?_);(conv=>whnf)))|(refine And.intro ?_ ?_;rotate_left;(conv=>whnf);rotate_right))
       refine .to (k + 1) hlt (by omega) ?_
       conv=>whnf
       repeat' (first|exact trivial|((first|((first|refine hT _ _ ?_|refine hE _ _ _ ?_|refine hN _ _ ?_);clear hN hE hT)|refine kL ?_|(refine ⟨fun hb=>?_,fun hb=>?_⟩<;>(try simp only [nrm] at hb)<;>(try (first|(exfalso;omega)|contradiction|exact kB hb)))|refine kW cfg_ok ?_|refine kC ?_|refine bdA ?_|refine bd2 ?_|refine bdR ?_|refine bdL ?_)<;>((try with_reducible refine evCut fun N hN hE hT=>?_);(conv=>whnf)))|(refine And.intro ?_ ?_;rotate_left;(conv=>whnf);rotate_right))
       all_goals first|rfl|omega|trace_state
     by_cases e4 : c.dol = 11
     · by_cases e5 : c.a = (elt .player w.players ((k : Nat) : Int).toNat).id
       · clear hs hr2
         conv=>whnf
         repeat' (first|exact trivial|((first|((first|refine hT _ _ ?_|refine hE _ _ _ ?_|refine hN _ _ ?_);clear hN hE hT)|refine kL ?_|(refine ⟨fun hb=>?_,fun hb=>?_⟩<;>(try simp only [nrm] at hb)<;>(try (first|(exfalso;omega)|contradiction|exact kB hb)))|refine kA hpn ?_|refine kD hpn ?_|refine kW cfg_ok ?_|refine kC ?_|refine bdA ?_|refine bd2 ?_|refine bdR ?_|refine bdL ?_)<;>((try with_reducible refine evCut fun N hN hE hT=>?_);(conv=>whnf)))|(refine And.intro ?_ ?_;rotate_left;(conv=>whnf);rotate_right))
         refine .to (k + 1) hlt (by omega) ?_
         conv=>whnf
         repeat' (first|exact trivial|((first|((first|refine hT _ _ ?_|refine hE _ _ _ ?_|refine hN _ _ ?_);clear hN hE hT)|refine kL ?_|(refine ⟨fun hb=>?_,fun hb=>?_⟩<;>(try simp only [nrm] at hb)<;>(try (first|(exfalso;omega)|contradiction|exact kB hb)))|refine kW cfg_ok ?_|refine kC ?_|refine bdA ?_|refine bd2 ?_|refine bdR ?_|refine bdL ?_)<;>((try with_reducible refine evCut fun N hN hE hT=>?_);(conv=>whnf)))|(refine And.intro ?_ ?_;rotate_left;(conv=>whnf);rotate_right))
         all_goals first|rfl|omega|trace_state
       · have hrq:=hr2 e1 e2 (fun h=>e3 h.2) (fun h=>e5 h.2)
         subst hrq
         clear hr2
         conv=>whnf
         repeat' (first|exact trivial|((first|((first|refine hT _ _ ?_|refine hE _ _ _ ?_|refine hN _ _ ?_);clear hN hE hT)|refine kL ?_|(refine ⟨fun hb=>?_,fun hb=>?_⟩<;>(try simp only [nrm] at hb)<;>(try (first|(exfalso;omega)|contradiction|exact kB hb)))|refine kA hpn ?_|refine kD hpn ?_|refine kA hs ?_|refine kD hs ?_|refine kW cfg_ok ?_|refine kC ?_|refine bdA ?_|refine bd2 ?_|refine bdR ?_|refine bdL ?_)<;>((try with_reducible refine evCut fun N hN hE hT=>?_);(conv=>whnf)))|(refine And.intro ?_ ?_;rotate_left;(conv=>whnf);rotate_right))
         refine .to (k + 1) hlt (by omega) ?_
         conv=>whnf
         repeat' (first|exact trivial|((first|((first|refine hT _ _ ?_|refine hE _ _ _ ?_|refine hN _ _ ?_);clear hN hE hT)|refine kL ?_|(refine ⟨fun hb=>?_,fun hb=>?_⟩<;>(try simp only [nrm] at hb)<;>(try (first|(exfalso;omega)|contradiction|exact kB hb)))|refine kW cfg_ok ?_|refine kC ?_|refine bdA ?_|refine bd2 ?_|refine bdR ?_|refine bdL ?_)<;>((try with_reducible refine evCut fun N hN hE hT=>?_);(conv=>whnf)))|(refine And.intro ?_ ?_;rotate_left;(conv=>whnf);rotate_right))
         all_goals first|rfl|omega|trace_state
     · have hrq:=hr2 e1 e2 (fun h=>e3 h.2) (fun h=>e4 h.1)
       subst hrq
       clear hr2
       conv=>whnf
       repeat' (first|exact trivial|((first|((first|refine hT _ _ ?_|refine hE _ _ _ ?_|refine hN _ _ ?_);clear hN hE hT)|refine kL ?_|(refine ⟨fun hb=>?_,fun hb=>?_⟩<;>(try simp only [nrm] at hb)<;>(try (first|(exfalso;omega)|contradiction|exact kB hb)))|refine kA hpn ?_|refine kD hpn ?_|refine kA hs ?_|refine kD hs ?_|refine kW cfg_ok ?_|refine kC ?_|refine bdA ?_|refine bd2 ?_|refine bdR ?_|refine bdL ?_)<;>((try with_reducible refine evCut fun N hN hE hT=>?_);(conv=>whnf)))|(refine And.intro ?_ ?_;rotate_left;(conv=>whnf);rotate_right))
       refine .to (k + 1) hlt (by omega) ?_
       conv=>whnf
       repeat' (first|exact trivial|((first|((first|refine hT _ _ ?_|refine hE _ _ _ ?_|refine hN _ _ ?_);clear hN hE hT)|refine kL ?_|(refine ⟨fun hb=>?_,fun hb=>?_⟩<;>(try simp only [nrm] at hb)<;>(try (first|(exfalso;omega)|contradiction|exact kB hb)))|refine kW cfg_ok ?_|refine kC ?_|refine bdA ?_|refine bd2 ?_|refine bdR ?_|refine bdL ?_)<;>((try with_reducible refine evCut fun N hN hE hT=>?_);(conv=>whnf)))|(refine And.intro ?_ ?_;rotate_left;(conv=>whnf);rotate_right))
       all_goals first|rfl|omega|trace_state
   · obtain rfl : k = w.players.length:=by omega
     clear hfp hsp
     conv=>whnf
     repeat' (first|exact trivial|((first|((first|refine hT _ _ ?_|refine hE _ _ _ ?_|refine hN _ _ ?_);clear hN hE hT)|refine kL ?_|(refine ⟨fun hb=>?_,fun hb=>?_⟩<;>(try simp only [nrm] at hb)<;>(try (first|(exfalso;omega)|contradiction|exact kB hb)))|refine kA haw ?_|refine kD haw ?_|refine kW cfg_ok ?_|refine kC ?_|refine bdA ?_|refine bd2 ?_|refine bdR ?_|refine bdL ?_)<;>((try with_reducible refine evCut fun N hN hE hT=>?_);(conv=>whnf)))|(refine And.intro ?_ ?_;rotate_left;(conv=>whnf);rotate_right))
     all_goals first|rfl|omega|trace_state
open Go Go.RowKit Eng
theorem rfar_near (w n : Wld) (id : Int) (c : Cmd) (x0 x1 x y e : Int) (P : Player) (B : Bool) (K1 K2 : Chunk) (B1 B2 : Bool) (hd : 0 ≤ c.dol ∧ c.dol ≤ 255) (hx : 0 ≤ x ∧ x < 16) (hy : 0 ≤ y ∧ y < 16) (hpb : B = true → 0 ≤ P.x ∧ P.x ≤ 200 ∧ 0 ≤ P.y ∧ P.y ≤ 200) (hnp : w.players.length ≤ 32) (hB : B = true) (hd1 : 8 * x ≤ P.x + 3) (hd2 : P.x - 3 < 8 * x + 8) (hd3 : 8 * y ≤ P.y + 3) (hd4 : P.y - 3 < 8 * y + 8) (hF : FarG w n id c x0 x1 x y e P B K1 K2 B1 B2) : Api Tryz.prog 4 [wldV w,dooA id c,.agg [i64 x0,i64 x1]] (bol true):=by
 have haw:=awake16_api
 obtain ⟨hse,hpx,hpy,hpl,hap,hch,hcn,hfp,hsp⟩:=hF
 subst hB
 have hpb2:=hpb rfl
 refine Api.of_fin cfg_ok Tryz.func4 rfl (nt:=171) rfl rfl ?_
 ((try with_reducible refine evCut fun N hN hE hT=>?_);(conv=>whnf))
 repeat' (first|exact trivial|((first|((first|refine hT _ _ ?_|refine hE _ _ _ ?_|refine hN _ _ ?_);clear hN hE hT)|refine kL ?_|(refine ⟨fun hb=>?_,fun hb=>?_⟩<;>(try simp only [nrm] at hb)<;>(try (first|(exfalso;omega)|contradiction|exact kB hb)))|refine kA hse ?_|refine kD hse ?_|refine kA hpx ?_|refine kD hpx ?_|refine kA hpy ?_|refine kD hpy ?_|refine kA hpl ?_|refine kD hpl ?_|refine kA hap ?_|refine kD hap ?_|refine kA hch ?_|refine kD hch ?_|refine kA hcn ?_|refine kD hcn ?_|refine kW cfg_ok ?_|refine kC ?_|refine bdA ?_|refine bd2 ?_|refine bdR ?_|refine bdL ?_)<;>((try with_reducible refine evCut fun N hN hE hT=>?_);(conv=>whnf)))|(refine And.intro ?_ ?_;rotate_left;(conv=>whnf);rotate_right))
 refine Runs.loopQ cfg_ok (σ:=Nat) [4,9,10,12,111,112,113] (fun k=>[.ptr 8 0,.ptr 18 0,bol true,.ptr 24 0,.vec .player w.players,i64 w.players.length,i64 k]) (fun _=>[(8,.box [i64 id,.lit (.int .u8 c.dol),i64 c.a,i64 c.b,i64 c.c,i64 c.n]),(18,.box (playerC P)),(24,.box (wldC n))]) (fun k=>k ≤ w.players.length) (fun k=>w.players.length - k) 0 (by omega) ?_ ?_
 · conv=>whnf
   repeat' (first|exact trivial|((first|((first|refine hT _ _ ?_|refine hE _ _ _ ?_|refine hN _ _ ?_);clear hN hE hT)|refine kL ?_|(refine ⟨fun hb=>?_,fun hb=>?_⟩<;>(try simp only [nrm] at hb)<;>(try (first|(exfalso;omega)|contradiction|exact kB hb)))|refine kW cfg_ok ?_|refine kC ?_|refine bdA ?_|refine bd2 ?_|refine bdR ?_|refine bdL ?_)<;>((try with_reducible refine evCut fun N hN hE hT=>?_);(conv=>whnf)))|(refine And.intro ?_ ?_;rotate_left;(conv=>whnf);rotate_right))
   all_goals first|rfl|omega|trace_state
 · intro k hk N hN hE hT
   clear hse hpx hpy hpl hap hch hcn
   by_cases hlt : k < w.players.length
   · have hqm : elt .player w.players ((k : Nat) : Int).toNat ∈ w.players:=by rw [Int.toNat_natCast];exact elt_mem (t:=.player) hlt
     obtain ⟨r,hpn,hr2⟩:=hfp _ hqm
     have hs:=hsp _ hqm
     clear hfp hsp
     by_cases e1 : (elt .player w.players ((k : Nat) : Int).toNat).id = id
     · clear hs hr2
       conv=>whnf
       repeat' (first|exact trivial|((first|((first|refine hT _ _ ?_|refine hE _ _ _ ?_|refine hN _ _ ?_);clear hN hE hT)|refine kL ?_|(refine ⟨fun hb=>?_,fun hb=>?_⟩<;>(try simp only [nrm] at hb)<;>(try (first|(exfalso;omega)|contradiction|exact kB hb)))|refine kA hpn ?_|refine kD hpn ?_|refine kW cfg_ok ?_|refine kC ?_|refine bdA ?_|refine bd2 ?_|refine bdR ?_|refine bdL ?_)<;>((try with_reducible refine evCut fun N hN hE hT=>?_);(conv=>whnf)))|(refine And.intro ?_ ?_;rotate_left;(conv=>whnf);rotate_right))
       refine .to (k + 1) hlt (by omega) ?_
       conv=>whnf
       repeat' (first|exact trivial|((first|((first|refine hT _ _ ?_|refine hE _ _ _ ?_|refine hN _ _ ?_);clear hN hE hT)|refine kL ?_|(refine ⟨fun hb=>?_,fun hb=>?_⟩<;>(try simp only [nrm] at hb)<;>(try (first|(exfalso;omega)|contradiction|exact kB hb)))|refine kW cfg_ok ?_|refine kC ?_|refine bdA ?_|refine bd2 ?_|refine bdR ?_|refine bdL ?_)<;>((try with_reducible refine evCut fun N hN hE hT=>?_);(conv=>whnf)))|(refine And.intro ?_ ?_;rotate_left;(conv=>whnf);rotate_right))
       all_goals first|rfl|omega|trace_state
     by_cases e2 : (elt .player w.players ((k : Nat) : Int).toNat).wth = id
     · clear hs hr2
       conv=>whnf
       repeat' (first|exact trivial|((first|((first|refine hT _ _ ?_|refine hE _ _ _ ?_|refine hN _ _ ?_);clear hN hE hT)|refine kL ?_|(refine ⟨fun hb=>?_,fun hb=>?_⟩<;>(try simp only [nrm] at hb)<;>(try (first|(exfalso;omega)|contradiction|exact kB hb)))|refine kA hpn ?_|refine kD hpn ?_|refine kW cfg_ok ?_|refine kC ?_|refine bdA ?_|refine bd2 ?_|refine bdR ?_|refine bdL ?_)<;>((try with_reducible refine evCut fun N hN hE hT=>?_);(conv=>whnf)))|(refine And.intro ?_ ?_;rotate_left;(conv=>whnf);rotate_right))
       refine .to (k + 1) hlt (by omega) ?_
       conv=>whnf
       repeat' (first|exact trivial|((first|((first|refine hT _ _ ?_|refine hE _ _ _ ?_|refine hN _ _ ?_);clear hN hE hT)|refine kL ?_|(refine ⟨fun hb=>?_,fun hb=>?_⟩<;>(try simp only [nrm] at hb)<;>(try (first|(exfalso;omega)|contradiction|exact kB hb)))|refine kW cfg_ok ?_|refine kC ?_|refine bdA ?_|refine bd2 ?_|refine bdR ?_|refine bdL ?_)<;>((try with_reducible refine evCut fun N hN hE hT=>?_);(conv=>whnf)))|(refine And.intro ?_ ?_;rotate_left;(conv=>whnf);rotate_right))
       all_goals first|rfl|omega|trace_state
     by_cases e3 : P.wth = (elt .player w.players ((k : Nat) : Int).toNat).id
     · clear hs hr2
       conv=>whnf
       repeat' (first|exact trivial|((first|((first|refine hT _ _ ?_|refine hE _ _ _ ?_|refine hN _ _ ?_);clear hN hE hT)|refine kL ?_|(refine ⟨fun hb=>?_,fun hb=>?_⟩<;>(try simp only [nrm] at hb)<;>(try (first|(exfalso;omega)|contradiction|exact kB hb)))|refine kA hpn ?_|refine kD hpn ?_|refine kW cfg_ok ?_|refine kC ?_|refine bdA ?_|refine bd2 ?_|refine bdR ?_|refine bdL ?_)<;>((try with_reducible refine evCut fun N hN hE hT=>?_);(conv=>whnf)))|(refine And.intro ?_ ?_;rotate_left;(conv=>whnf);rotate_right))
       refine .to (k + 1) hlt (by omega) ?_
       conv=>whnf
       repeat' (first|exact trivial|((first|((first|refine hT _ _ ?_|refine hE _ _ _ ?_|refine hN _ _ ?_);clear hN hE hT)|refine kL ?_|(refine ⟨fun hb=>?_,fun hb=>?_⟩<;>(try simp only [nrm] at hb)<;>(try (first|(exfalso;omega)|contradiction|exact kB hb)))|refine kW cfg_ok ?_|refine kC ?_|refine bdA ?_|refine bd2 ?_|refine bdR ?_|refine bdL ?_)<;>((try with_reducible refine evCut fun N hN hE hT=>?_);(conv=>whnf)))|(refine And.intro ?_ ?_;rotate_left;(conv=>whnf);rotate_right))
       all_goals first|rfl|omega|trace_state
     by_cases e4 : c.dol = 11
     · by_cases e5 : c.a = (elt .player w.players ((k : Nat) : Int).toNat).id
       · clear hs hr2
         conv=>whnf
         repeat' (first|exact trivial|((first|((first|refine hT _ _ ?_|refine hE _ _ _ ?_|refine hN _ _ ?_);clear hN hE hT)|refine kL ?_|(refine ⟨fun hb=>?_,fun hb=>?_⟩<;>(try simp only [nrm] at hb)<;>(try (first|(exfalso;omega)|contradiction|exact kB hb)))|refine kA hpn ?_|refine kD hpn ?_|refine kW cfg_ok ?_|refine kC ?_|refine bdA ?_|refine bd2 ?_|refine bdR ?_|refine bdL ?_)<;>((try with_reducible refine evCut fun N hN hE hT=>?_);(conv=>whnf)))|(refine And.intro ?_ ?_;rotate_left;(conv=>whnf);rotate_right))
         refine .to (k + 1) hlt (by omega) ?_
         conv=>whnf
         repeat' (first|exact trivial|((first|((first|refine hT _ _ ?_|refine hE _ _ _ ?_|refine hN _ _ ?_);clear hN hE hT)|refine kL ?_|(refine ⟨fun hb=>?_,fun hb=>?_⟩<;>(try simp only [nrm] at hb)<;>(try (first|(exfalso;omega)|contradiction|exact kB hb)))|refine kW cfg_ok ?_|refine kC ?_|refine bdA ?_|refine bd2 ?_|refine bdR ?_|refine bdL ?_)<;>((try with_reducible refine evCut fun N hN hE hT=>?_);(conv=>whnf)))|(refine And.intro ?_ ?_;rotate_left;(conv=>whnf);rotate_right))
         all_goals first|rfl|omega|trace_state
       · have hrq:=hr2 e1 e2 (fun h=>e3 h.2) (fun h=>e5 h.2)
         subst hrq
         clear hr2
         conv=>whnf
         repeat' (first|exact trivial|((first|((first|refine hT _ _ ?_|refine hE _ _ _ ?_|refine hN _ _ ?_);clear hN hE hT)|refine kL ?_|(refine ⟨fun hb=>?_,fun hb=>?_⟩<;>(try simp only [nrm] at hb)<;>(try (first|(exfalso;omega)|contradiction|exact kB hb)))|refine kA hpn ?_|refine kD hpn ?_|refine kA hs ?_|refine kD hs ?_|refine kW cfg_ok ?_|refine kC ?_|refine bdA ?_|refine bd2 ?_|refine bdR ?_|refine bdL ?_)<;>((try with_reducible refine evCut fun N hN hE hT=>?_);(conv=>whnf)))|(refine And.intro ?_ ?_;rotate_left;(conv=>whnf);rotate_right))
         refine .to (k + 1) hlt (by omega) ?_
         conv=>whnf
         repeat' (first|exact trivial|((first|((first|refine hT _ _ ?_|refine hE _ _ _ ?_|refine hN _ _ ?_);clear hN hE hT)|refine kL ?_|(refine ⟨fun hb=>?_,fun hb=>?_⟩<;>(try simp only [nrm] at hb)<;>(try (first|(exfalso;omega)|contradiction|exact kB hb)))|refine kW cfg_ok ?_|refine kC ?_|refine bdA ?_|refine bd2 ?_|refine bdR ?_|refine bdL ?_)<;>((try with_reducible refine evCut fun N hN hE hT=>?_);(conv=>whnf)))|(refine And.intro ?_ ?_;rotate_left;(conv=>whnf);rotate_right))
         all_goals first|rfl|omega|trace_state
     · have hrq:=hr2 e1 e2 (fun h=>e3 h.2) (fun h=>e4 h.1)
       subst hrq
       clear hr2
       conv=>whnf
       repeat' (first|exact trivial|((first|((first|refine hT _ _ ?_|refine hE _ _ _ ?_|refine hN _ _ ?_);clear hN hE hT)|refine kL ?_|(refine ⟨fun hb=>?_,fun hb=>?_⟩<;>(try simp only [nrm] at hb)<;>(try (first|(exfalso;omega)|contradiction|exact kB hb)))|refine kA hpn ?_|refine kD hpn ?_|refine kA hs ?_|refine kD hs ?_|refine kW cfg_ok ?_|refine kC ?_|refine bdA ?_|refine bd2 ?_|refine bdR ?_|refine bdL ?_)<;>((try with_reducible refine evCut fun N hN hE hT=>?_);(conv=>whnf)))|(refine And.intro ?_ ?_;rotate_left;(conv=>whnf);rotate_right))
       refine .to (k + 1) hlt (by omega) ?_
       conv=>whnf
       repeat' (first|exact trivial|((first|((first|refine hT _ _ ?_|refine hE _ _ _ ?_|refine hN _ _ ?_);clear hN hE hT)|refine kL ?_|(refine ⟨fun hb=>?_,fun hb=>?_⟩<;>(try simp only [nrm] at hb)<;>(try (first|(exfalso;omega)|contradiction|exact kB hb)))|refine kW cfg_ok ?_|refine kC ?_|refine bdA ?_|refine bd2 ?_|refine bdR ?_|refine bdL ?_)<;>((try with_reducible refine evCut fun N hN hE hT=>?_);(conv=>whnf)))|(refine And.intro ?_ ?_;rotate_left;(conv=>whnf);rotate_right))
       all_goals first|rfl|omega|trace_state
   · obtain rfl : k = w.players.length:=by omega
     clear hfp hsp
     conv=>whnf
     repeat' (first|exact trivial|((first|((first|refine hT _ _ ?_|refine hE _ _ _ ?_|refine hN _ _ ?_);clear hN hE hT)|refine kL ?_|(refine ⟨fun hb=>?_,fun hb=>?_⟩<;>(try simp only [nrm] at hb)<;>(try (first|(exfalso;omega)|contradiction|exact kB hb)))|refine kA haw ?_|refine kD haw ?_|refine kW cfg_ok ?_|refine kC ?_|refine bdA ?_|refine bd2 ?_|refine bdR ?_|refine bdL ?_)<;>((try with_reducible refine evCut fun N hN hE hT=>?_);(conv=>whnf)))|(refine And.intro ?_ ?_;rotate_left;(conv=>whnf);rotate_right))
     all_goals first|rfl|omega|trace_state
open Go Go.RowKit Eng
theorem rfar_no (w : Wld) (id : Int) (c : Cmd) (x0 x1 : Int) (hw : OkW w) (hd : 0 ≤ c.dol ∧ c.dol ≤ 255) (hS : (!(greatW w) && rightW w) = false) : Api Tryz.prog 4 [wldV w,dooA id c,.agg [i64 x0,i64 x1]] (bol true):=by
 have hse:=seen16_api w hw
 have haw:=awake16_api
 rw [hS] at hse
 refine Api.of_fin cfg_ok Tryz.func4 rfl (nt:=171) rfl rfl ?_
 ((try with_reducible refine evCut fun N hN hE hT=>?_);(conv=>whnf))
 repeat' (first|exact trivial|((first|((first|refine hT _ _ ?_|refine hE _ _ _ ?_|refine hN _ _ ?_);clear hN hE hT)|refine kL ?_|(refine ⟨fun hb=>?_,fun hb=>?_⟩<;>(try simp only [nrm] at hb)<;>(try (first|(exfalso;omega)|contradiction|exact kB hb)))|refine kA hse ?_|refine kD hse ?_|refine kA haw ?_|refine kD haw ?_|refine kW cfg_ok ?_|refine kC ?_|refine bdA ?_|refine bd2 ?_|refine bdR ?_|refine bdL ?_)<;>((try with_reducible refine evCut fun N hN hE hT=>?_);(conv=>whnf)))|(refine And.intro ?_ ?_;rotate_left;(conv=>whnf);rotate_right))
 all_goals first|rfl|omega|trace_state
theorem rfar_api (w : Wld) (id : Int) (c : Cmd) (x0 x1 : Int) (hw : OkW w) (hi : id ≤ 9223372036854775807) (hd : 0 ≤ c.dol ∧ c.dol ≤ 255) : Api Tryz.prog 4 [wldV w,dooA id c,.agg [i64 x0,i64 x1]] (bol true):=by
 cases hS : (!(greatW w) && rightW w) with
 | false=>exact rfar_no w id c x0 x1 hw hd hS
 | true =>
   rw [Bool.and_eq_true] at hS
   have hg : greatW w = false:=by simpa using hS.1
   have hR:=rightW_iff.1 hS.2
   have hsz:=hR.size
   have hF:=farG w id c x0 x1 hg hR hi hd
   have hx : 0 ≤ x0 % w.size ∧ x0 % w.size < w.size:=⟨Int.emod_nonneg _ (by omega),Int.emod_lt_of_pos _ (by omega)⟩
   have hy : 0 ≤ x1 % w.size ∧ x1 % w.size < w.size:=⟨Int.emod_nonneg _ (by omega),Int.emod_lt_of_pos _ (by omega)⟩
   have hfc:=far_chunk hR id c hx hy
   have hnp : w.players.length ≤ 32:=hR.size.2.2.2.2
   have hKr:=chunk_right hR hx hy
   have hsm:=same_self (chunkW w (x0 % w.size) (x1 % w.size)).1 (okC_right hKr)
   have hpb : (playerW w id).2 = true → 0 ≤ (playerW w id).1.x ∧ (playerW w id).1.x ≤ 200 ∧ 0 ≤ (playerW w id).1.y ∧ (playerW w id).1.y ≤ 200:=fun h=>by
     have:=(within_iff hR).1 (here_of hR h).1.sound.2;omega
   generalize x0 % w.size = x at *
   generalize x1 % w.size = y at *
   have hx' : 0 ≤ x ∧ x < 16:=by omega
   have hy' : 0 ≤ y ∧ y < 16:=by omega
   generalize (applyW w id c).1 = n at *
   generalize (applyW w id c).2 = e at *
   generalize (playerW w id).1 = P at *
   generalize (playerW w id).2 = B at *
   have hfar : (nearS P x y = false ∨ B = false) → Api Tryz.prog 32 [chunkV (chunkW w x y).1,chunkV (chunkW n x y).1] (bol true):=fun h=>by
     rw [hfc (fun hb=>by rcases h with h|h;exact h;rw [hb] at h;cases h)];exact hsm
   cases B with
   | false=>exact rfar_gone w n id c x0 x1 x y e P false _ _ _ _ hd hx' hy' hpb hnp rfl hF (hfar (.inr rfl))
   | true =>
     have hnf : (P.x + 3 < 8 * x ∨ 8 * x + 8 ≤ P.x - 3 ∨ P.y + 3 < 8 * y ∨ 8 * y + 8 ≤ P.y - 3) → nearS P x y = false:=fun h=>by
       unfold nearS
       simp only [Bool.and_eq_false_iff,decide_eq_false_iff_not];omega
     by_cases h1 : P.x + 3 < 8 * x
     · exact rfar_west w n id c x0 x1 x y e P true _ _ _ _ hd hx' hy' hpb hnp rfl h1 hF (hfar (.inl (hnf (.inl h1))))
     by_cases h2 : 8 * x + 8 ≤ P.x - 3
     · exact rfar_east w n id c x0 x1 x y e P true _ _ _ _ hd hx' hy' hpb hnp rfl (by omega) h2 hF (hfar (.inl (hnf (.inr (.inl h2)))))
     by_cases h3 : P.y + 3 < 8 * y
     · exact rfar_north w n id c x0 x1 x y e P true _ _ _ _ hd hx' hy' hpb hnp rfl (by omega) (by omega) h3 hF (hfar (.inl (hnf (.inr (.inr (.inl h3))))))
     by_cases h4 : 8 * y + 8 ≤ P.y - 3
     · exact rfar_south w n id c x0 x1 x y e P true _ _ _ _ hd hx' hy' hpb hnp rfl (by omega) (by omega) (by omega) h4 hF (hfar (.inl (hnf (.inr (.inr (.inr h4))))))
     exact rfar_near w n id c x0 x1 x y e P true _ _ _ _ hd hx' hy' hpb hnp rfl (by omega) (by omega) (by omega) (by omega) hF
end Go.Proofs.YtkojlembanldcaaGreat
