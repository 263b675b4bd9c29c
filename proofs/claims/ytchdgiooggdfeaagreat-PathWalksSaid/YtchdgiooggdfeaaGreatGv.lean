/- homesteadlaw27.PathWalks. -/
import Derived.Test.YtchdgiooggdfeaaGreatGs
import Derived.Test.YtchdgiooggdfeaaGreatGo
import Derived.Test.YtchdgiooggdfeaaGreatGq
set_option linter.unusedSimpArgs false
set_option linter.unusedVariables false
set_option maxRecDepth 100000
set_option maxHeartbeats 16000000
namespace Go.Proofs.YtchdgiooggdfeaaGreat
open Go Go.RowKit Eng
theorem beq_dec {f : Int} {p : Prop} [Decidable p] (h : f = 0 ↔ p) : (f == 0) = decide p:=by
 by_cases hp : p
 · rw [decide_eq_true hp];exact beq_iff_eq.2 (h.2 hp)
 · rw [decide_eq_false hp];exact beq_eq_false_iff_ne.2 fun e=>hp (h.1 e)
abbrev pickP (w : Wld) (x : Int) : Player:=elt .player w.players (x % (w.players.length : Nat)).toNat
theorem pwalkIn_api (w : Wld) (hw : OkW w) (hR : RW w) (hg : great6 w = false) (hn : 0 < w.players.length) (x0 x1 x2 x3 : Int) (mv : List (El .u8)) (hmv : ∀ z ∈ mv,0 ≤ z ∧ z ≤ 255) (hml : mv.length ≤ 140737488351232) (L M : List (El .cmd)) (e f : Int) (sm : Bool) (hp1 : Api Tryz.prog 9 [wldV w,i64 (pickP w x0).id,i64 (x1 % (8 * w.size)),i64 (x2 % (8 * w.size)),i64 64] (.tup [.vec .cmd L,i64 e])) (hp2 : Api Tryz.prog 9 [wldV w,i64 (pickP w x0).id,i64 (x1 % (8 * w.size)),i64 (x2 % (8 * w.size)),i64 (x3 % 65)] (.tup [.vec .cmd M,i64 f])) (he : e = 0 ∨ (e = 107 ∧ L.length = 0)) (hf : f = 0 ↔ e = 0 ∧ (L.length : Int) ≤ x3 % 65) (hLl : L.length ≤ 64) (hsm : Api Tryz.prog 10 [.vec .cmd L,.vec .cmd M] (bol sm)) (hsm2 : f = 0 → sm = true) (V : Nat → Wld) (hV0 : V 0 = w) (hap : ∀ i : Nat,i < L.length → Api Tryz.prog 11 [wldV (V i),i64 (pickP w x0).id,cmdV (elt .cmd L i)] (.tup [wldV (V (i + 1)),i64 0])) (q : Player) (hq : Api Tryz.prog 12 [wldV (V L.length),i64 (pickP w x0).id] (.tup [playerV q,bol true])) (hqe : e = 0 → q.x = x1 % (8 * w.size) ∧ q.y = x2 % (8 * w.size)) (U : Nat → Wld) (A : Nat → Wld) (g : Nat → Int) (Q : Nat → Player) (hU0 : U 0 = w) (hpl : ∀ i : Nat,i ≤ 64 → Api Tryz.prog 12 [wldV (U i),i64 (pickP w x0).id] (.tup [playerV (Q i),bol true])) (hat : ∀ i : Nat,i ≤ 64 → (Q i).x = x1 % (8 * w.size) → (Q i).y = x2 % (8 * w.size) → e = 0 ∧ L.length ≤ i) (hap2 : ∀ i : Nat,i < 64 → i < mv.length → Api Tryz.prog 11 [wldV (U i),i64 (pickP w x0).id,cmdV ⟨2,elt .u8 mv i % 3 - 1,elt .u8 mv i / 3 % 3 - 1,0,0⟩] (.tup [wldV (A i),i64 (g i)])) (hu1 : ∀ i,i < 64 → i < mv.length → g i = 0 → U (i + 1) = A i) (hu2 : ∀ i,i < 64 → i < mv.length → ¬ g i = 0 → U (i + 1) = U i) : Api Tryz.prog 3 [wldV w,.agg [i64 x0,i64 x1,i64 x2,i64 x3],.vec .u8 mv] (bol true):=by
 have haw:=awake27_api
 have hsz:=hR.size
 have hnp:=hw.np
 have hgr:=great6_api w hw
 rw [hg] at hgr
 have hrt:=rightW_api w hw
 rw [rightW_iff.2 hR] at hrt
 have hk0:=pick_api x0 (w.players.length : Nat) (by omega) (by omega)
 have hk1:=pick_api x1 (8 * w.size) (by omega) (by omega)
 have hk2:=pick_api x2 (8 * w.size) (by omega) (by omega)
 have hk3:=pick_api x3 65 (by decide) (by decide)
 have q0 : 0 ≤ x0 % (w.players.length : Nat) ∧ x0 % (w.players.length : Nat) < w.players.length:=⟨Int.emod_nonneg _ (by omega),Int.emod_lt_of_pos _ (by omega)⟩
 have key : (f = 0 ∧ sm = true) ∨ (sm = sm ∧ ¬ f = 0):=by
   by_cases h : f = 0
   · exact .inl ⟨h,hsm2 h⟩
   · exact .inr ⟨rfl,h⟩
 clear hsm2
 rcases key with ⟨hf0,rfl⟩|⟨_,hf0⟩
 all_goals
   refine Api.of_fin cfg_ok Tryz.func3 rfl (nt:=234) rfl rfl ?_
   conv=>whnf
   repeat' (first|exact trivial|((first|refine kL ?_|(refine ⟨fun hb=>?_,fun hb=>?_⟩<;>(try simp only [nrm] at hb)<;>(try (first|(exfalso;omega)|contradiction|exact kB hb)))|refine kA hgr ?_|refine kD hgr ?_|refine kA hrt ?_|refine kD hrt ?_|refine kA hk0 ?_|refine kD hk0 ?_|refine kA hk1 ?_|refine kD hk1 ?_|refine kA hk2 ?_|refine kD hk2 ?_|refine kA hk3 ?_|refine kD hk3 ?_|refine kA hp1 ?_|refine kD hp1 ?_|refine kA hp2 ?_|refine kD hp2 ?_|refine kA hsm ?_|refine kD hsm ?_|refine kW cfg_ok ?_|refine kC ?_|refine bdA ?_|refine bd2 ?_|refine bdR ?_|refine bdL ?_)<;>(conv=>whnf))|(refine And.intro ?_ ?_;rotate_left;(conv=>whnf);rotate_right))
   all_goals first|omega|exact absurd (beq_dec (by omega)) hb|skip
   all_goals
     refine Runs.loopQ cfg_ok (σ:=Nat) [2,3,7,9,10,11,15,124,125,126] (fun i=>[.vec .u8 mv,.ptr 6 0,.ptr 14 0,.ptr 18 0,.vec .cmd L,i64 e,.ptr 30 0,.vec .cmd L,i64 (L.length : Nat),i64 (i : Nat)])
       (fun i=>[(6,.box (wldC w)),(14,.box (playerC (pickP w x0))),(18,.box [i64 (x1 % (8 * w.size)),i64 (x2 % (8 * w.size))]),(30,.box (wldC (V i)))])
       (fun i=>i ≤ L.length) (fun i=>L.length - i) 0 (by omega) ?_ ?_
     · conv=>whnf
       repeat' (first|exact trivial|((first|refine kL ?_|(refine ⟨fun hb=>?_,fun hb=>?_⟩<;>(try simp only [nrm] at hb)<;>(try (first|(exfalso;omega)|contradiction|exact kB hb)))|refine kW cfg_ok ?_|refine kC ?_|refine bdA ?_|refine bd2 ?_|refine bdR ?_|refine bdL ?_)<;>(conv=>whnf))|(refine And.intro ?_ ?_;rotate_left;(conv=>whnf);rotate_right))
       all_goals first|rfl|omega|(rw [hV0];done)|trace_state
     · intro i hi N1 hN1 hE1 hT1
       by_cases hlt : i < L.length
       · have h1:=hap i hlt
         conv=>whnf
         repeat' (first|exact trivial|((first|refine kL ?_|(refine ⟨fun hb=>?_,fun hb=>?_⟩<;>(try simp only [nrm] at hb)<;>(try (first|(exfalso;omega)|contradiction|exact kB hb)))|refine kA h1 ?_|refine kD h1 ?_|refine kW cfg_ok ?_|refine kC ?_|refine bdA ?_|refine bd2 ?_|refine bdR ?_|refine bdL ?_)<;>(conv=>whnf))|(refine And.intro ?_ ?_;rotate_left;(conv=>whnf);rotate_right))
         all_goals first|omega|skip
         all_goals
           refine hN1 _ _ ?_
           conv=>whnf
           refine .to (i + 1) (by omega) (by omega) ?_
           conv=>whnf
           repeat' (first|exact trivial|((first|refine kL ?_|(refine ⟨fun hb=>?_,fun hb=>?_⟩<;>(try simp only [nrm] at hb)<;>(try (first|(exfalso;omega)|contradiction|exact kB hb)))|refine kW cfg_ok ?_|refine kC ?_|refine bdA ?_|refine bd2 ?_|refine bdR ?_|refine bdL ?_)<;>(conv=>whnf))|(refine And.intro ?_ ?_;rotate_left;(conv=>whnf);rotate_right))
           all_goals first|rfl|omega|trace_state
       · obtain rfl : i = L.length:=by omega
         conv=>whnf
         repeat' (first|exact trivial|((first|refine kL ?_|(refine ⟨fun hb=>?_,fun hb=>?_⟩<;>(try simp only [nrm] at hb)<;>(try (first|(exfalso;omega)|contradiction|exact kB hb)))|refine kW cfg_ok ?_|refine kC ?_|refine bdA ?_|refine bd2 ?_|refine bdR ?_|refine bdL ?_)<;>(conv=>whnf))|(refine And.intro ?_ ?_;rotate_left;(conv=>whnf);rotate_right))
         all_goals first|omega|skip
         refine hE1 _ _ _ ?_
         conv=>whnf
         repeat' (first|exact trivial|((first|refine kL ?_|(refine ⟨fun hb=>?_,fun hb=>?_⟩<;>(try simp only [nrm] at hb)<;>(try (first|(exfalso;omega)|contradiction|exact kB hb)))|refine kA hq ?_|refine kD hq ?_|refine kW cfg_ok ?_|refine kC ?_|refine bdA ?_|refine bd2 ?_|refine bdR ?_|refine bdL ?_)<;>(conv=>whnf))|(refine And.intro ?_ ?_;rotate_left;(conv=>whnf);rotate_right))
         all_goals first|omega|skip
         all_goals
           refine Runs.loopQ cfg_ok (σ:=Nat) [2,7,9,10,11,15,22] (fun i=>[.vec .u8 mv,.ptr 14 0,.ptr 18 0,.vec .cmd L,i64 e,.ptr 30 0,i64 (i : Nat)])
             (fun i=>[(14,.box (playerC (pickP w x0))),(18,.box [i64 (x1 % (8 * w.size)),i64 (x2 % (8 * w.size))]),(30,.box (wldC (U i)))])
             (fun i=>i ≤ 64 ∧ i ≤ mv.length) (fun i=>64 - i) 0 (by omega) ?_ ?_
           · conv=>whnf
             repeat' (first|exact trivial|((first|refine kL ?_|(refine ⟨fun hb=>?_,fun hb=>?_⟩<;>(try simp only [nrm] at hb)<;>(try (first|(exfalso;omega)|contradiction|exact kB hb)))|refine kW cfg_ok ?_|refine kC ?_|refine bdA ?_|refine bd2 ?_|refine bdR ?_|refine bdL ?_)<;>(conv=>whnf))|(refine And.intro ?_ ?_;rotate_left;(conv=>whnf);rotate_right))
             all_goals first|rfl|omega|(rw [hU0];done)|trace_state
           · intro i hi N2 hN2 hE2 hT2
             by_cases hlt : i < 64 ∧ i < mv.length
             · have h1:=hpl i hi.1
               have h2:=hap2 i hlt.1 hlt.2
               have h3:=hat i hi.1
               by_cases hAt : (Q i).x = x1 % (8 * w.size) ∧ (Q i).y = x2 % (8 * w.size)
               · obtain ⟨c1,c2⟩:=h3 hAt.1 hAt.2
                 conv=>whnf
                 repeat' (first|exact trivial|((first|refine kL ?_|(refine ⟨fun hb=>?_,fun hb=>?_⟩<;>(try simp only [nrm] at hb)<;>(try (first|(exfalso;omega)|contradiction|exact kB hb)))|refine kA h1 ?_|refine kD h1 ?_|refine kA haw ?_|refine kD haw ?_|refine kW cfg_ok ?_|refine kC ?_|refine bdA ?_|refine bd2 ?_|refine bdR ?_|refine bdL ?_)<;>(conv=>whnf))|(refine And.intro ?_ ?_;rotate_left;(conv=>whnf);rotate_right))
                 all_goals first|omega|skip
                 all_goals
                   refine hT2 _ _ ?_
                   conv=>whnf
                   repeat' (first|exact trivial|((first|refine kL ?_|(refine ⟨fun hb=>?_,fun hb=>?_⟩<;>(try simp only [nrm] at hb)<;>(try (first|(exfalso;omega)|contradiction|exact kB hb)))|refine kW cfg_ok ?_|refine kC ?_|refine bdA ?_|refine bd2 ?_|refine bdR ?_|refine bdL ?_)<;>(conv=>whnf))|(refine And.intro ?_ ?_;rotate_left;(conv=>whnf);rotate_right))
                   all_goals first|rfl|omega|trace_state
               · have h4 : (0 : Int) ≤ elt .u8 mv ((i : Nat) : Int).toNat ∧ @LE.le Int _ (elt .u8 mv ((i : Nat) : Int).toNat) 255:=hmv _ (elt_mem (t:=.u8) hlt.2)
                 by_cases hg0 : g i = 0
                 · have h5:=hu1 i hlt.1 hlt.2 hg0
                   rw [← h5,hg0] at h2
                   conv=>whnf
                   repeat' (first|exact trivial|((first|refine kL ?_|(refine ⟨fun hb=>?_,fun hb=>?_⟩<;>(try simp only [nrm] at hb)<;>(try (first|(exfalso;omega)|contradiction|exact kB hb)))|refine kA h1 ?_|refine kD h1 ?_|refine kA h2 ?_|refine kD h2 ?_|refine kA haw ?_|refine kD haw ?_|refine kW cfg_ok ?_|refine kC ?_|refine bdA ?_|refine bd2 ?_|refine bdR ?_|refine bdL ?_)<;>(conv=>whnf))|(refine And.intro ?_ ?_;rotate_left;(conv=>whnf);rotate_right))
                   all_goals first|rfl|omega|skip
                   all_goals
                     refine hN2 _ _ ?_
                     conv=>whnf
                     refine .to (i + 1) (by omega) (by omega) ?_
                     conv=>whnf
                     repeat' (first|exact trivial|((first|refine kL ?_|(refine ⟨fun hb=>?_,fun hb=>?_⟩<;>(try simp only [nrm] at hb)<;>(try (first|(exfalso;omega)|contradiction|exact kB hb)))|refine kW cfg_ok ?_|refine kC ?_|refine bdA ?_|refine bd2 ?_|refine bdR ?_|refine bdL ?_)<;>(conv=>whnf))|(refine And.intro ?_ ?_;rotate_left;(conv=>whnf);rotate_right))
                     all_goals first|rfl|omega|trace_state
                 · have h5:=hu2 i hlt.1 hlt.2 hg0
                   generalize A i = Ai at *
                   conv=>whnf
                   repeat' (first|exact trivial|((first|refine kL ?_|(refine ⟨fun hb=>?_,fun hb=>?_⟩<;>(try simp only [nrm] at hb)<;>(try (first|(exfalso;omega)|contradiction|exact kB hb)))|refine kA h1 ?_|refine kD h1 ?_|refine kA h2 ?_|refine kD h2 ?_|refine kA haw ?_|refine kD haw ?_|refine kW cfg_ok ?_|refine kC ?_|refine bdA ?_|refine bd2 ?_|refine bdR ?_|refine bdL ?_)<;>(conv=>whnf))|(refine And.intro ?_ ?_;rotate_left;(conv=>whnf);rotate_right))
                   all_goals first|rfl|omega|skip
                   all_goals
                     refine hN2 _ _ ?_
                     conv=>whnf
                     refine .to (i + 1) (by omega) (by omega) ?_
                     conv=>whnf
                     simp only [h5]
                     repeat' (first|exact trivial|((first|refine kL ?_|(refine ⟨fun hb=>?_,fun hb=>?_⟩<;>(try simp only [nrm] at hb)<;>(try (first|(exfalso;omega)|contradiction|exact kB hb)))|refine kW cfg_ok ?_|refine kC ?_|refine bdA ?_|refine bd2 ?_|refine bdR ?_|refine bdL ?_)<;>(conv=>whnf))|(refine And.intro ?_ ?_;rotate_left;(conv=>whnf);rotate_right))
                     all_goals first|rfl|omega|trace_state
             · conv=>whnf
               repeat' (first|exact trivial|((first|refine kL ?_|(refine ⟨fun hb=>?_,fun hb=>?_⟩<;>(try simp only [nrm] at hb)<;>(try (first|(exfalso;omega)|contradiction|exact kB hb)))|refine kW cfg_ok ?_|refine kC ?_|refine bdA ?_|refine bd2 ?_|refine bdR ?_|refine bdL ?_)<;>(conv=>whnf))|(refine And.intro ?_ ?_;rotate_left;(conv=>whnf);rotate_right))
               all_goals first|omega|skip
               all_goals
                 refine hE2 _ _ _ ?_
                 conv=>whnf
                 repeat' (first|exact trivial|((first|refine kL ?_|(refine ⟨fun hb=>?_,fun hb=>?_⟩<;>(try simp only [nrm] at hb)<;>(try (first|(exfalso;omega)|contradiction|exact kB hb)))|refine kA haw ?_|refine kD haw ?_|refine kW cfg_ok ?_|refine kC ?_|refine bdA ?_|refine bd2 ?_|refine bdR ?_|refine bdL ?_)<;>(conv=>whnf))|(refine And.intro ?_ ?_;rotate_left;(conv=>whnf);rotate_right))
                 all_goals first|rfl|omega|trace_state
open Go Go.RowKit Eng
def moveU (mv : List (El .u8)) (i : Nat) : Cmd:=⟨2,elt .u8 mv i % 3 - 1,elt .u8 mv i / 3 % 3 - 1,0,0⟩
def roamU (w : Wld) (id : Int) (mv : List (El .u8)) : Nat → Wld
 | 0=>w
 | i + 1=>if (applyW (roamU w id mv i) id (moveU mv i)).2 = 0 then (applyW (roamU w id mv i) id (moveU mv i)).1 else roamU w id mv i
theorem roam_all {w : Wld} {p : Player} (hp : Here w p) (e : Pos) (mv : List (El .u8)) : ∀ i,Roams w p.id e (atP p) i (roamU w p.id mv i):=by
 intro i
 induction i with
 | zero=>exact roam_zero hp
 | succ i ih =>
   have b1 : ∀ z : Int,-1 ≤ z % 3 - 1 ∧ z % 3 - 1 ≤ 1:=fun z=>by omega
   have b2 : ∀ z : Int,-1 ≤ z / 3 % 3 - 1 ∧ z / 3 % 3 - 1 ≤ 1:=fun z=>by omega
   obtain ⟨h1,h2⟩:=roam_step hp.rw ih (x:=elt .u8 mv i % 3 - 1) (y:=elt .u8 mv i / 3 % 3 - 1) (b1 _) (b2 _)
   show Roams w p.id e (atP p) (i + 1) (if (applyW (roamU w p.id mv i) p.id (moveU mv i)).2 = 0 then (applyW (roamU w p.id mv i) p.id (moveU mv i)).1 else roamU w p.id mv i)
   by_cases h0 : (applyW (roamU w p.id mv i) p.id (moveU mv i)).2 = 0
   · rw [if_pos h0];exact h1 h0
   · rw [if_neg h0];exact h2
theorem pwalkNo1_api (w : Wld) (hw : OkW w) (hg : great6 w = true) (x0 x1 x2 x3 : Int) (mv : List (El .u8)) : Api Tryz.prog 3 [wldV w,.agg [i64 x0,i64 x1,i64 x2,i64 x3],.vec .u8 mv] (bol true):=by
 have haw:=awake27_api
 have hgr:=great6_api w hw
 rw [hg] at hgr
 refine Api.of_fin cfg_ok Tryz.func3 rfl (nt:=234) rfl rfl ?_
 conv=>whnf
 repeat' (first|exact trivial|((first|refine kL ?_|(refine ⟨fun hb=>?_,fun hb=>?_⟩<;>(try simp only [nrm] at hb)<;>(try (first|(exfalso;omega)|contradiction|exact kB hb)))|refine kA hgr ?_|refine kD hgr ?_|refine kA haw ?_|refine kD haw ?_|refine kW cfg_ok ?_|refine kC ?_|refine bdA ?_|refine bd2 ?_|refine bdR ?_|refine bdL ?_)<;>(conv=>whnf))|(refine And.intro ?_ ?_;rotate_left;(conv=>whnf);rotate_right))
 all_goals first|rfl|omega|trace_state
theorem pwalkNo2_api (w : Wld) (hw : OkW w) (hg : great6 w = false) (hR : rightW w = false) (x0 x1 x2 x3 : Int) (mv : List (El .u8)) : Api Tryz.prog 3 [wldV w,.agg [i64 x0,i64 x1,i64 x2,i64 x3],.vec .u8 mv] (bol true):=by
 have haw:=awake27_api
 have hgr:=great6_api w hw
 rw [hg] at hgr
 have hrt:=rightW_api w hw
 rw [hR] at hrt
 refine Api.of_fin cfg_ok Tryz.func3 rfl (nt:=234) rfl rfl ?_
 conv=>whnf
 repeat' (first|exact trivial|((first|refine kL ?_|(refine ⟨fun hb=>?_,fun hb=>?_⟩<;>(try simp only [nrm] at hb)<;>(try (first|(exfalso;omega)|contradiction|exact kB hb)))|refine kA hgr ?_|refine kD hgr ?_|refine kA hrt ?_|refine kD hrt ?_|refine kA haw ?_|refine kD haw ?_|refine kW cfg_ok ?_|refine kC ?_|refine bdA ?_|refine bd2 ?_|refine bdR ?_|refine bdL ?_)<;>(conv=>whnf))|(refine And.intro ?_ ?_;rotate_left;(conv=>whnf);rotate_right))
 all_goals first|rfl|omega|trace_state
theorem pwalkNo3_api (w : Wld) (hw : OkW w) (hg : great6 w = false) (hR : rightW w = true) (hn : w.players.length = 0) (x0 x1 x2 x3 : Int) (mv : List (El .u8)) : Api Tryz.prog 3 [wldV w,.agg [i64 x0,i64 x1,i64 x2,i64 x3],.vec .u8 mv] (bol true):=by
 have haw:=awake27_api
 have hgr:=great6_api w hw
 rw [hg] at hgr
 have hrt:=rightW_api w hw
 rw [hR] at hrt
 refine Api.of_fin cfg_ok Tryz.func3 rfl (nt:=234) rfl rfl ?_
 conv=>whnf
 repeat' (first|exact trivial|((first|refine kL ?_|(refine ⟨fun hb=>?_,fun hb=>?_⟩<;>(try simp only [nrm] at hb)<;>(try (first|(exfalso;omega)|contradiction|exact kB hb)))|refine kA hgr ?_|refine kD hgr ?_|refine kA hrt ?_|refine kD hrt ?_|refine kA haw ?_|refine kD haw ?_|refine kW cfg_ok ?_|refine kC ?_|refine bdA ?_|refine bd2 ?_|refine bdR ?_|refine bdL ?_)<;>(conv=>whnf))|(refine And.intro ?_ ?_;rotate_left;(conv=>whnf);rotate_right))
 all_goals first|rfl|omega|trace_state
theorem walk_facts {w : Wld} {p : Player} (hp : Here w p) {x y : Int} (hx : 0 ≤ x ∧ 0 ≤ y ∧ x < 8 * w.size ∧ y < 8 * w.size) :
   ((pathW w p.id x y 64).2 = 0 ∨ ((pathW w p.id x y 64).2 = 107 ∧ (pathW w p.id x y 64).1.length = 0)) ∧ (pathW w p.id x y 64).1.length ≤ 64 ∧ ∃ (V : Nat → Wld) (q : Player),V 0 = w ∧ (∀ i : Nat,i < (pathW w p.id x y 64).1.length → RW (V i) ∧ applyW (V i) p.id (elt .cmd (pathW w p.id x y 64).1 i) = (V (i + 1),0) ∧ (elt .cmd (pathW w p.id x y 64).1 i).dol = 2) ∧ RW (V (pathW w p.id x y 64).1.length) ∧ playerW (V (pathW w p.id x y 64).1.length) p.id = (q,true) ∧ ((pathW w p.id x y 64).2 = 0 → q.x = x ∧ q.y = y):=by
 rcases path_spec hp (most:=64) (by omega) hx with ⟨a1,d,a2,a3,ls,a4,a5⟩|⟨a1,a2⟩
 · have hll:=told_len a5
   have h64 : (64 : Int).toNat = 64:=rfl
   have h0 : GoneE w p.id ⟨x,y⟩ ls 0 w:=⟨⟨⟨hp.rw,rfl,rfl,rfl⟩,p,hp,rfl,by rw [Nat.sub_zero,hll,List.drop_zero];exact a5⟩,fun q hq hid=>by
     rw [here_one hq hp hid,List.drop_zero]
     exact told_end a3 a5⟩
   have hgo:=go_goneE hp.rw h0
   have hlen : (ls.map cmdOf).length = ls.length:=List.length_map ..
   obtain ⟨q,hq,hid,_⟩:=(hgo ls.length (Nat.le_refl _)).gone.ex
   have hat:=(hgo ls.length (Nat.le_refl _)).at_ q hq hid
   rw [List.drop_length] at hat
   have hat : atP q = ⟨x,y⟩:=hat
   rw [a4,hlen]
   refine ⟨.inl a1,by omega,goW w p.id ls,q,rfl,fun i hi=>?_,(hgo ls.length (Nat.le_refl _)).gone.same.rw,?_,fun _=>⟨congrArg Pos.x hat,congrArg Pos.y hat⟩⟩
   · rw [gone_cmd hi]
     exact ⟨(hgo i (by omega)).gone.same.rw,Prod.ext rfl (goneE_step hp.rw (hgo i (by omega)) hi).1,rfl⟩
   · have h9:=here_player hq
     rw [hid] at h9
     exact h9
 · rw [a1]
   refine ⟨.inr ⟨rfl,rfl⟩,Nat.zero_le _,fun _=>w,p,rfl,fun i hi=>absurd hi (Nat.not_lt_zero i),hp.rw,here_player hp,fun h=>absurd h (by decide)⟩
theorem pwalk_api (w : Wld) (hw : OkW w) (x0 x1 x2 x3 : Int) (mv : List (El .u8)) (hmv : ∀ z ∈ mv,0 ≤ z ∧ z ≤ 255) (hml : mv.length ≤ 140737488351232) : Api Tryz.prog 3 [wldV w,.agg [i64 x0,i64 x1,i64 x2,i64 x3],.vec .u8 mv] (bol true):=by
 cases hg : great6 w with
 | true=>exact pwalkNo1_api w hw hg x0 x1 x2 x3 mv
 | false =>
   cases hR : rightW w with
   | false=>exact pwalkNo2_api w hw hg hR x0 x1 x2 x3 mv
   | true =>
     by_cases hn : w.players.length = 0
     · exact pwalkNo3_api w hw hg hR hn x0 x1 x2 x3 mv
     · have hr:=rightW_iff.1 hR
       have hsz:=hr.size
       have q0 : 0 ≤ x0 % (w.players.length : Nat) ∧ x0 % (w.players.length : Nat) < w.players.length:=⟨Int.emod_nonneg _ (by omega),Int.emod_lt_of_pos _ (by omega)⟩
       have q1 : 0 ≤ x1 % (8 * w.size) ∧ x1 % (8 * w.size) < 8 * w.size:=⟨Int.emod_nonneg _ (by omega),Int.emod_lt_of_pos _ (by omega)⟩
       have q2 : 0 ≤ x2 % (8 * w.size) ∧ x2 % (8 * w.size) < 8 * w.size:=⟨Int.emod_nonneg _ (by omega),Int.emod_lt_of_pos _ (by omega)⟩
       have hmem : pickP w x0 ∈ w.players:=elt_mem (t:=.player) (by omega)
       have hp : Here w (pickP w x0):=⟨hr,getK_of_mem (key:=pid) hr.rp hmem⟩
       have hpb:=hw.players _ hmem
       obtain ⟨f1,f2,V,q,f3,f4,f5,f6,f7⟩:=walk_facts hp (x:=x1 % (8 * w.size)) (y:=x2 % (8 * w.size)) ⟨q1.1,q2.1,q1.2,q2.2⟩
       obtain ⟨t1,t2⟩:=two_paths hp (x:=x1 % (8 * w.size)) (y:=x2 % (8 * w.size)) (few:=x3 % 65) (by omega) ⟨q1.1,q2.1,q1.2,q2.2⟩
       have hns:=fun m hm h=>@no_sooner w _ hp (x1 % (8 * w.size)) (x2 % (8 * w.size)) ⟨q1.1,q2.1,q1.2,q2.2⟩ m hm h
       have hp1:=ppath_api w (pickP w x0).id (x1 % (8 * w.size)) (x2 % (8 * w.size)) 64 hw
       have hp2:=ppath_api w (pickP w x0).id (x1 % (8 * w.size)) (x2 % (8 * w.size)) (x3 % 65) hw
       have hid : (pickP w x0).id ≤ 9223372036854775807:=by
         have:=sound_parts hp.sound.1
         omega
       have hrm:=roam_all hp ⟨x1 % (8 * w.size),x2 % (8 * w.size)⟩ mv
       have hsm:=same27_api (pathW w (pickP w x0).id (x1 % (8 * w.size)) (x2 % (8 * w.size)) 64).1 (pathW w (pickP w x0).id (x1 % (8 * w.size)) (x2 % (8 * w.size)) (x3 % 65)).1 (by omega)
       have hsm2 : (pathW w (pickP w x0).id (x1 % (8 * w.size)) (x2 % (8 * w.size)) (x3 % 65)).2 = 0 → eqv (pathW w (pickP w x0).id (x1 % (8 * w.size)) (x2 % (8 * w.size)) 64).1 (pathW w (pickP w x0).id (x1 % (8 * w.size)) (x2 % (8 * w.size)) (x3 % 65)).1 = true:=fun h=>by
         rw [t2 h];exact eqv_self _
       generalize pathW w (pickP w x0).id (x1 % (8 * w.size)) (x2 % (8 * w.size)) 64 = PA at *
       generalize pathW w (pickP w x0).id (x1 % (8 * w.size)) (x2 % (8 * w.size)) (x3 % 65) = PB at *
       refine pwalkIn_api w hw hr hg (by omega) x0 x1 x2 x3 mv hmv hml PA.1 PB.1 PA.2 PB.2 _ hp1 hp2 f1 t1 f2 hsm hsm2 V f3 (fun i hi=>?_) q ?_ f7 (roamU w (pickP w x0).id mv)
         (fun i=>(applyW (roamU w (pickP w x0).id mv i) (pickP w x0).id (moveU mv i)).1) (fun i=>(applyW (roamU w (pickP w x0).id mv i) (pickP w x0).id (moveU mv i)).2) (fun i=>(playerW (roamU w (pickP w x0).id mv i) (pickP w x0).id).1) rfl (fun i hi=>?_) (fun i hi h1 h2=>?_) (fun i hi h2=>?_) (fun i hi h2 h0=>if_pos h0) (fun i hi h2 h0=>if_neg h0)
       · obtain ⟨g1,g2,g3⟩:=f4 i hi
         have h:=apply_api (V i) (pickP w x0).id (elt .cmd PA.1 i) (okW_rw g1) hid (by rw [g3];decide)
         rw [g2] at h
         exact h
       · have h:=wplayer_api (V PA.1.length) (pickP w x0).id (okW_rw f5)
         rw [f6] at h
         exact h
       · have hrw:=(hrm i).same.rw
         obtain ⟨z,hz,hzi,_⟩:=(hrm i).ex
         have h:=wplayer_api (roamU w (pickP w x0).id mv i) (pickP w x0).id (okW_rw hrw)
         have e : (playerW (roamU w (pickP w x0).id mv i) (pickP w x0).id).2 = true:=by
           have h9:=here_player hz
           rw [hzi] at h9
           rw [h9]
         rw [e] at h
         exact h
       · obtain ⟨z,hz,hzi,hzw⟩:=(hrm i).ex
         have e : (playerW (roamU w (pickP w x0).id mv i) (pickP w x0).id).1 = z:=by
           have h9:=here_player hz
           rw [hzi] at h9
           rw [h9]
         rw [e] at h1 h2
         obtain ⟨m,hm1,hm2⟩:=hzw 0 (pos_ext h1 h2)
         obtain ⟨n1,n2⟩:=hns m (by omega) hm2
         exact ⟨n1,by omega⟩
       · have hrw:=(hrm i).same.rw
         exact apply_api (roamU w (pickP w x0).id mv i) (pickP w x0).id (moveU mv i) (okW_rw hrw) hid (by show (0 : Int) ≤ 2 ∧ (2 : Int) ≤ 255;decide)
end Go.Proofs.YtchdgiooggdfeaaGreat
