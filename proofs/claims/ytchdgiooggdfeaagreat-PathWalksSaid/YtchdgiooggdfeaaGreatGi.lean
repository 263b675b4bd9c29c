/- Rules, plain. -/
import Derived.Test.YtchdgiooggdfeaaGreatGe
import Derived.Test.YtchdgiooggdfeaaGreatGd
import Derived.Test.YtchdgiooggdfeaaGreatGc
import Derived.Test.YtchdgiooggdfeaaGreatGg
import Derived.Test.YtchdgiooggdfeaaGreatGh
set_option linter.unusedSimpArgs false
set_option linter.unusedVariables false
set_option maxRecDepth 100000
set_option maxHeartbeats 16000000
namespace Go.Proofs.YtchdgiooggdfeaaGreat
open Go Go.RowKit Eng
theorem deal1_api (p : Player) (hp : OkP p) : Api Tryz.prog 149 [playerV p] (bol (mayB p)):=by
 have h:=api_weak (set_world w16 p okW_16 hp) (args':=[.agg [i64 16,.lit (.int .u64 0),i64 0,.lit (.slice none 0 0),.lit (.slice none 0 0)],playerV p]) (.cons (Le.agg (.cons (Le.refl _) (.cons (Le.refl _) (.cons (Le.refl _) (.cons (Le.nil _) (.cons (Le.nil _) .nil)))))) (.cons (Le.refl _) .nil))
 rw [set_16] at h
 generalize (setW w16 p).1 = W at h
 cases hM : mayB p
 all_goals
   rw [hM] at h
   refine Api.of_fin cfg_ok Tryz.func149 rfl (nt:=12) rfl rfl ?_
   conv=>whnf
   repeat' (first|exact trivial|((first|refine kL ?_|(refine ⟨fun hb=>?_,fun hb=>?_⟩<;>(try simp only [nrm] at hb)<;>(try (first|(exfalso;omega)|contradiction|exact kB hb)))|refine kA h ?_|refine kD h ?_|refine kW cfg_ok ?_|refine kC ?_|refine bdA ?_|refine bd2 ?_|refine bdR ?_|refine bdL ?_)<;>(conv=>whnf))|(refine And.intro ?_ ?_;rotate_left;(conv=>whnf);rotate_right))
def dealB (p q : Player) : Bool:=!(decide (p.id = q.id)) && (mayB p && mayB q)
theorem deal_api (p q : Player) (hp : OkP p) (hq : OkP q) : Api Tryz.prog 125 [playerV p,playerV q] (bol (dealB p q)):=by
 have h1:=deal1_api p hp
 have h2:=deal1_api q hq
 unfold dealB
 by_cases he : p.id = q.id
 · rw [decide_eq_true he]
   refine Api.of_fin cfg_ok Tryz.func125 rfl (nt:=19) rfl rfl ?_
   conv=>whnf
   repeat' (first|exact trivial|((first|refine kL ?_|(refine ⟨fun hb=>?_,fun hb=>?_⟩<;>(try simp only [nrm] at hb)<;>(try (first|(exfalso;omega)|contradiction|exact kB hb)))|refine kA h1 ?_|refine kD h1 ?_|refine kA h2 ?_|refine kD h2 ?_|refine kW cfg_ok ?_|refine kC ?_|refine bdA ?_|refine bd2 ?_|refine bdR ?_|refine bdL ?_)<;>(conv=>whnf))|(refine And.intro ?_ ?_;rotate_left;(conv=>whnf);rotate_right))
 · rw [decide_eq_false he]
   cases hP : mayB p
   all_goals
     rw [hP] at h1
     cases hQ : mayB q
     all_goals
       rw [hQ] at h2
       refine Api.of_fin cfg_ok Tryz.func125 rfl (nt:=19) rfl rfl ?_
       conv=>whnf
       repeat' (first|exact trivial|((first|refine kL ?_|(refine ⟨fun hb=>?_,fun hb=>?_⟩<;>(try simp only [nrm] at hb)<;>(try (first|(exfalso;omega)|contradiction|exact kB hb)))|refine kA h1 ?_|refine kD h1 ?_|refine kA h2 ?_|refine kD h2 ?_|refine kW cfg_ok ?_|refine kC ?_|refine bdA ?_|refine bd2 ?_|refine bdR ?_|refine bdL ?_)<;>(conv=>whnf))|(refine And.intro ?_ ?_;rotate_left;(conv=>whnf);rotate_right))
def waverP (q : Player) (id : Int) : Player:={ q with agrees:=q.agrees && !(decide (q.wth = id)) }
theorem waver_api (q : Player) (id : Int) : Api Tryz.prog 126 [playerV q,i64 id] (playerV (waverP q id)):=by
 unfold waverP
 cases hA : q.agrees
 all_goals
   by_cases he : q.wth = id
   all_goals
     refine Api.of_fin cfg_ok Tryz.func126 rfl (nt:=13) rfl rfl ?_
     conv=>whnf
     repeat' (first|exact trivial|((first|refine kL ?_|(refine ⟨fun hb=>?_,fun hb=>?_⟩<;>(try simp only [nrm] at hb)<;>(try (first|(exfalso;omega)|contradiction|exact kB hb)))|refine kW cfg_ok ?_|refine kC ?_|refine bdA ?_|refine bd2 ?_|refine bdR ?_|refine bdL ?_)<;>(conv=>whnf))|(refine And.intro ?_ ?_;rotate_left;(conv=>whnf);rotate_right))
     all_goals (refine congrArg Value.bool ?_;simp_all)
def freeP (p : Player) (l : List Slot) : Player:={ p with bag:=l,offer:=[],wth:=-1,agrees:=false }
theorem free_api (p : Player) (l : List (El .slot)) : Api Tryz.prog 128 [playerV p,.vec .slot l] (playerV (freeP p l)):=by
 refine Api.of_fin cfg_ok Tryz.func128 rfl (nt:=9) rfl rfl ?_
 conv=>whnf
 repeat' (first|exact trivial|((first|refine kL ?_|(refine ⟨fun hb=>?_,fun hb=>?_⟩<;>(try simp only [nrm] at hb)<;>(try (first|(exfalso;omega)|contradiction|exact kB hb)))|refine kW cfg_ok ?_|refine kC ?_|refine bdA ?_|refine bd2 ?_|refine bdR ?_|refine bdL ?_)<;>(conv=>whnf))|(refine And.intro ?_ ?_;rotate_left;(conv=>whnf);rotate_right))
def newB8 : List Slot:=List.replicate 8 ⟨0,0⟩
def offerP (p q : Player) (a n : Int) : Player × Player × Int:=
 if dealB p q = false then (p,q,110) else if ¬ p.wth = -1 ∧ ¬ p.wth = q.id then (p,q,108)
 else if ¬ (takeS p.bag a n).2.2 = 0 then (p,q,(takeS p.bag a n).2.2)
 else if 0 < (putS (if p.wth = -1 then newB8 else p.offer) (takeS p.bag a n).2.1.item (takeS p.bag a n).2.1.n).2 then (p,q,104)
 else ({ p with bag:=(takeS p.bag a n).1,offer:=(putS (if p.wth = -1 then newB8 else p.offer) (takeS p.bag a n).2.1.item (takeS p.bag a n).2.1.n).1,wth:=q.id,agrees:=false },waverP q p.id,0)
theorem takeS_ok {l : List Slot} {a n : Int} (hl : ∀ s ∈ l,okSlot s) : okSlot (takeS l a n).2.1 ∧ ∀ s ∈ (takeS l a n).1,okSlot s:=by
 have hz : okSlot ⟨0,0⟩:=⟨by decide,by decide⟩
 unfold takeS
 split
 · exact ⟨hz,hl⟩
 · rename_i h
   split
   · exact ⟨hz,hl⟩
   · split
     · exact ⟨hz,hl⟩
     · have hm:=hl _ (elt_mem (t:=.slot) (l:=l) (i:=a.toNat) (by omega))
       refine ⟨hm,fun s hs=>?_⟩
       rcases List.mem_or_eq_of_mem_set hs with hs|rfl
       · exact hl s hs
       · unfold lessS;split
         · exact hz
         · exact hm
theorem takeS_n {l : List Slot} {a n : Int} (h : (takeS l a n).2.2 = 0) : (takeS l a n).2.1.n = n ∧ 1 ≤ n ∧ n ≤ 16 ∧ bagOk l = true ∧ 0 ≤ a ∧ a < l.length ∧ n ≤ (elt .slot l a.toNat).n ∧ takeS l a n = (l.set a.toNat (lessS (elt .slot l a.toNat) n),⟨(elt .slot l a.toNat).item,n⟩,0):=by
 unfold takeS at h ⊢
 split at h
 · cases h
 · rename_i h1
   split at h
   · cases h
   · rename_i h2
     split at h
     · cases h
     · rename_i h3
       have hb : bagOk l = true:=by cases hb : bagOk l with|true=>rfl|false=>exact absurd (.inr (.inr hb)) h1
       have hsm:=bagOk_small hb _ (elt_mem (t:=.slot) (l:=l) (i:=a.toNat) (by omega))
       rw [if_neg h1,if_neg h2,if_neg h3]
       exact ⟨rfl,by omega,by omega,hb,by omega,by omega,by omega,rfl⟩
theorem takeS_len (l : List Slot) (a n : Int) : (takeS l a n).1.length = l.length:=by
 unfold takeS
 (repeat' split)<;>simp
theorem offer_api (p q : Player) (a n : Int) (hp : OkP p) (hq : OkP q) : Api Tryz.prog 84 [playerV p,playerV q,i64 a,i64 n] (.tup [playerV (offerP p q a n).1,playerV (offerP p q a n).2.1,i64 (offerP p q a n).2.2]):=by
 have h1:=townp_api p hp
 have h2:=townp_api q hq
 have h3:=deal_api p q hp hq
 have h4:=take_api p.bag a n (by have:=hp.nb;omega) hp.bag
 have h5:=new_api 8 (by omega) (by omega)
 change Api _ _ _ (.vec .slot newB8) at h5
 have hnb : newB8.length = 8:=rfl
 have hnk : ∀ s ∈ newB8,okSlot s:=by intro s hs;rw [(List.mem_replicate.1 hs).2];exact ⟨by decide,by decide⟩
 have hto:=takeS_ok (a:=a) (n:=n) hp.bag
 have htn:=takeS_n (l:=p.bag) (a:=a) (n:=n)
 have h6:=waver_api q p.id
 unfold offerP
 cases hD : dealB p q with
 | false =>
   rw [if_pos rfl]
   rw [hD] at h3
   refine Api.of_fin cfg_ok Tryz.func84 rfl (nt:=82) rfl rfl ?_
   conv=>whnf
   repeat' (first|exact trivial|((first|refine kL ?_|(refine ⟨fun hb=>?_,fun hb=>?_⟩<;>(try simp only [nrm] at hb)<;>(try (first|(exfalso;omega)|contradiction|exact kB hb)))|refine kA h1 ?_|refine kD h1 ?_|refine kA h2 ?_|refine kD h2 ?_|refine kA h3 ?_|refine kD h3 ?_|refine kW cfg_ok ?_|refine kC ?_|refine bdA ?_|refine bd2 ?_|refine bdR ?_|refine bdL ?_)<;>(conv=>whnf))|(refine And.intro ?_ ?_;rotate_left;(conv=>whnf);rotate_right))
 | true =>
   rw [if_neg (by simp)]
   rw [hD] at h3
   by_cases hw : ¬ p.wth = -1 ∧ ¬ p.wth = q.id
   · rw [if_pos hw]
     refine Api.of_fin cfg_ok Tryz.func84 rfl (nt:=82) rfl rfl ?_
     conv=>whnf
     repeat' (first|exact trivial|((first|refine kL ?_|(refine ⟨fun hb=>?_,fun hb=>?_⟩<;>(try simp only [nrm] at hb)<;>(try (first|(exfalso;omega)|contradiction|exact kB hb)))|refine kA h1 ?_|refine kD h1 ?_|refine kA h2 ?_|refine kD h2 ?_|refine kA h3 ?_|refine kD h3 ?_|refine kW cfg_ok ?_|refine kC ?_|refine bdA ?_|refine bd2 ?_|refine bdR ?_|refine bdL ?_)<;>(conv=>whnf))|(refine And.intro ?_ ?_;rotate_left;(conv=>whnf);rotate_right))
   · rw [if_neg hw]
     by_cases hE : (takeS p.bag a n).2.2 = 0
     · rw [if_neg (by simpa using hE)]
       obtain ⟨hn1,hn2,hn3,_⟩:=htn hE
       by_cases hm : p.wth = -1
       · rw [if_pos hm]
         have h7:=put_api newB8 (takeS p.bag a n).2.1.item (takeS p.bag a n).2.1.n (by omega) hnk hto.1.1 hto.1.2 (by omega)
         rw [hE] at h4
         generalize putS newB8 (takeS p.bag a n).2.1.item (takeS p.bag a n).2.1.n = R at *
         generalize takeS p.bag a n = T at *
         generalize newB8 = NB at *
         obtain ⟨R,r⟩:=R
         obtain ⟨T1,T2,T3⟩:=T
         dsimp only at *
         by_cases hr : 0 < r
         · rw [if_pos hr]
           refine Api.of_fin cfg_ok Tryz.func84 rfl (nt:=82) rfl rfl ?_
           conv=>whnf
           repeat' (first|exact trivial|((first|refine kL ?_|(refine ⟨fun hb=>?_,fun hb=>?_⟩<;>(try simp only [nrm] at hb)<;>(try (first|(exfalso;omega)|contradiction|exact kB hb)))|refine kA h1 ?_|refine kD h1 ?_|refine kA h2 ?_|refine kD h2 ?_|refine kA h3 ?_|refine kD h3 ?_|refine kA h4 ?_|refine kD h4 ?_|refine kA h5 ?_|refine kD h5 ?_|refine kA h7 ?_|refine kD h7 ?_|refine kW cfg_ok ?_|refine kC ?_|refine bdA ?_|refine bd2 ?_|refine bdR ?_|refine bdL ?_)<;>(conv=>whnf))|(refine And.intro ?_ ?_;rotate_left;(conv=>whnf);rotate_right))
         · rw [if_neg hr]
           refine Api.of_fin cfg_ok Tryz.func84 rfl (nt:=82) rfl rfl ?_
           conv=>whnf
           repeat' (first|exact trivial|((first|refine kL ?_|(refine ⟨fun hb=>?_,fun hb=>?_⟩<;>(try simp only [nrm] at hb)<;>(try (first|(exfalso;omega)|contradiction|exact kB hb)))|refine kA h1 ?_|refine kD h1 ?_|refine kA h2 ?_|refine kD h2 ?_|refine kA h3 ?_|refine kD h3 ?_|refine kA h4 ?_|refine kD h4 ?_|refine kA h5 ?_|refine kD h5 ?_|refine kA h7 ?_|refine kD h7 ?_|refine kA h6 ?_|refine kD h6 ?_|refine kW cfg_ok ?_|refine kC ?_|refine bdA ?_|refine bd2 ?_|refine bdR ?_|refine bdL ?_)<;>(conv=>whnf))|(refine And.intro ?_ ?_;rotate_left;(conv=>whnf);rotate_right))
       · rw [if_neg hm]
         have h7:=put_api p.offer (takeS p.bag a n).2.1.item (takeS p.bag a n).2.1.n (by have:=hp.no;omega) hp.offer hto.1.1 hto.1.2 (by omega)
         rw [hE] at h4
         generalize putS p.offer (takeS p.bag a n).2.1.item (takeS p.bag a n).2.1.n = R at *
         generalize takeS p.bag a n = T at *
         obtain ⟨R,r⟩:=R
         obtain ⟨T1,T2,T3⟩:=T
         dsimp only at *
         by_cases hr : 0 < r
         · rw [if_pos hr]
           refine Api.of_fin cfg_ok Tryz.func84 rfl (nt:=82) rfl rfl ?_
           conv=>whnf
           repeat' (first|exact trivial|((first|refine kL ?_|(refine ⟨fun hb=>?_,fun hb=>?_⟩<;>(try simp only [nrm] at hb)<;>(try (first|(exfalso;omega)|contradiction|exact kB hb)))|refine kA h1 ?_|refine kD h1 ?_|refine kA h2 ?_|refine kD h2 ?_|refine kA h3 ?_|refine kD h3 ?_|refine kA h4 ?_|refine kD h4 ?_|refine kA h7 ?_|refine kD h7 ?_|refine kW cfg_ok ?_|refine kC ?_|refine bdA ?_|refine bd2 ?_|refine bdR ?_|refine bdL ?_)<;>(conv=>whnf))|(refine And.intro ?_ ?_;rotate_left;(conv=>whnf);rotate_right))
         · rw [if_neg hr]
           refine Api.of_fin cfg_ok Tryz.func84 rfl (nt:=82) rfl rfl ?_
           conv=>whnf
           repeat' (first|exact trivial|((first|refine kL ?_|(refine ⟨fun hb=>?_,fun hb=>?_⟩<;>(try simp only [nrm] at hb)<;>(try (first|(exfalso;omega)|contradiction|exact kB hb)))|refine kA h1 ?_|refine kD h1 ?_|refine kA h2 ?_|refine kD h2 ?_|refine kA h3 ?_|refine kD h3 ?_|refine kA h4 ?_|refine kD h4 ?_|refine kA h7 ?_|refine kD h7 ?_|refine kA h6 ?_|refine kD h6 ?_|refine kW cfg_ok ?_|refine kC ?_|refine bdA ?_|refine bd2 ?_|refine bdR ?_|refine bdL ?_)<;>(conv=>whnf))|(refine And.intro ?_ ?_;rotate_left;(conv=>whnf);rotate_right))
     · rw [if_pos hE]
       generalize takeS p.bag a n = T at *
       obtain ⟨T1,T2,T3⟩:=T
       dsimp only at *
       refine Api.of_fin cfg_ok Tryz.func84 rfl (nt:=82) rfl rfl ?_
       conv=>whnf
       repeat' (first|exact trivial|((first|refine kL ?_|(refine ⟨fun hb=>?_,fun hb=>?_⟩<;>(try simp only [nrm] at hb)<;>(try (first|(exfalso;omega)|contradiction|exact kB hb)))|refine kA h1 ?_|refine kD h1 ?_|refine kA h2 ?_|refine kD h2 ?_|refine kA h3 ?_|refine kD h3 ?_|refine kA h4 ?_|refine kD h4 ?_|refine kW cfg_ok ?_|refine kC ?_|refine bdA ?_|refine bd2 ?_|refine bdR ?_|refine bdL ?_)<;>(conv=>whnf))|(refine And.intro ?_ ?_;rotate_left;(conv=>whnf);rotate_right))
def agreeP (p q : Player) : Player × Player × Bool × Int:=
 if dealB p q = false then (p,q,false,110) else if ¬ p.wth = q.id ∨ ¬ q.wth = p.id then (p,q,false,108)
 else if q.agrees = false then ({ p with agrees:=true },q,false,0)
 else if ¬ (allS p.bag q.offer).2 = 0 ∨ ¬ (allS q.bag p.offer).2 = 0 then (p,q,false,104)
 else (freeP p (allS p.bag q.offer).1,freeP q (allS q.bag p.offer).1,true,0)
theorem agree_api (p q : Player) (hp : OkP p) (hq : OkP q) : Api Tryz.prog 85 [playerV p,playerV q] (.tup [playerV (agreeP p q).1,playerV (agreeP p q).2.1,bol (agreeP p q).2.2.1,i64 (agreeP p q).2.2.2]):=by
 have h1:=townp_api p hp
 have h2:=townp_api q hq
 have h3:=deal_api p q hp hq
 have h4:=all_api p.bag q.offer (by have:=hp.nb;omega) hp.bag (by have:=hq.no;omega) hq.offer
 have h5:=all_api q.bag p.offer (by have:=hq.nb;omega) hq.bag (by have:=hp.no;omega) hp.offer
 have h6:=free_api p
 have h7:=free_api q
 unfold agreeP
 cases hD : dealB p q with
 | false =>
   rw [if_pos rfl]
   rw [hD] at h3
   refine Api.of_fin cfg_ok Tryz.func85 rfl (nt:=73) rfl rfl ?_
   conv=>whnf
   repeat' (first|exact trivial|((first|refine kL ?_|(refine ⟨fun hb=>?_,fun hb=>?_⟩<;>(try simp only [nrm] at hb)<;>(try (first|(exfalso;omega)|contradiction|exact kB hb)))|refine kA h1 ?_|refine kD h1 ?_|refine kA h2 ?_|refine kD h2 ?_|refine kA h3 ?_|refine kD h3 ?_|refine kW cfg_ok ?_|refine kC ?_|refine bdA ?_|refine bd2 ?_|refine bdR ?_|refine bdL ?_)<;>(conv=>whnf))|(refine And.intro ?_ ?_;rotate_left;(conv=>whnf);rotate_right))
 | true =>
   rw [if_neg (by simp)]
   rw [hD] at h3
   by_cases hw : ¬ p.wth = q.id ∨ ¬ q.wth = p.id
   · rw [if_pos hw]
     refine Api.of_fin cfg_ok Tryz.func85 rfl (nt:=73) rfl rfl ?_
     conv=>whnf
     repeat' (first|exact trivial|((first|refine kL ?_|(refine ⟨fun hb=>?_,fun hb=>?_⟩<;>(try simp only [nrm] at hb)<;>(try (first|(exfalso;omega)|contradiction|exact kB hb)))|refine kA h1 ?_|refine kD h1 ?_|refine kA h2 ?_|refine kD h2 ?_|refine kA h3 ?_|refine kD h3 ?_|refine kW cfg_ok ?_|refine kC ?_|refine bdA ?_|refine bd2 ?_|refine bdR ?_|refine bdL ?_)<;>(conv=>whnf))|(refine And.intro ?_ ?_;rotate_left;(conv=>whnf);rotate_right))
   · rw [if_neg hw]
     cases hA : q.agrees with
     | false =>
       rw [if_pos rfl]
       refine Api.of_fin cfg_ok Tryz.func85 rfl (nt:=73) rfl rfl ?_
       conv=>whnf
       repeat' (first|exact trivial|((first|refine kL ?_|(refine ⟨fun hb=>?_,fun hb=>?_⟩<;>(try simp only [nrm] at hb)<;>(try (first|(exfalso;omega)|contradiction|exact kB hb)))|refine kA h1 ?_|refine kD h1 ?_|refine kA h2 ?_|refine kD h2 ?_|refine kA h3 ?_|refine kD h3 ?_|refine kW cfg_ok ?_|refine kC ?_|refine bdA ?_|refine bd2 ?_|refine bdR ?_|refine bdL ?_)<;>(conv=>whnf))|(refine And.intro ?_ ?_;rotate_left;(conv=>whnf);rotate_right))
       all_goals trace_state
     | true =>
       rw [if_neg (by simp)]
       generalize allS p.bag q.offer = A at *
       generalize allS q.bag p.offer = B at *
       obtain ⟨A,x⟩:=A
       obtain ⟨B,y⟩:=B
       dsimp only at *
       by_cases hx : ¬ x = 0 ∨ ¬ y = 0
       · rw [if_pos hx]
         refine Api.of_fin cfg_ok Tryz.func85 rfl (nt:=73) rfl rfl ?_
         conv=>whnf
         repeat' (first|exact trivial|((first|refine kL ?_|(refine ⟨fun hb=>?_,fun hb=>?_⟩<;>(try simp only [nrm] at hb)<;>(try (first|(exfalso;omega)|contradiction|exact kB hb)))|refine kA h1 ?_|refine kD h1 ?_|refine kA h2 ?_|refine kD h2 ?_|refine kA h3 ?_|refine kD h3 ?_|refine kA h4 ?_|refine kD h4 ?_|refine kA h5 ?_|refine kD h5 ?_|refine kW cfg_ok ?_|refine kC ?_|refine bdA ?_|refine bd2 ?_|refine bdR ?_|refine bdL ?_)<;>(conv=>whnf))|(refine And.intro ?_ ?_;rotate_left;(conv=>whnf);rotate_right))
         all_goals trace_state
       · rw [if_neg hx]
         refine Api.of_fin cfg_ok Tryz.func85 rfl (nt:=73) rfl rfl ?_
         conv=>whnf
         repeat' (first|exact trivial|((first|refine kL ?_|(refine ⟨fun hb=>?_,fun hb=>?_⟩<;>(try simp only [nrm] at hb)<;>(try (first|(exfalso;omega)|contradiction|exact kB hb)))|refine kA h1 ?_|refine kD h1 ?_|refine kA h2 ?_|refine kD h2 ?_|refine kA h3 ?_|refine kD h3 ?_|refine kA h4 ?_|refine kD h4 ?_|refine kA h5 ?_|refine kD h5 ?_|refine kA (h6 _) ?_|refine kD (h6 _) ?_|refine kA (h7 _) ?_|refine kD (h7 _) ?_|refine kW cfg_ok ?_|refine kC ?_|refine bdA ?_|refine bd2 ?_|refine bdR ?_|refine bdL ?_)<;>(conv=>whnf))|(refine And.intro ?_ ?_;rotate_left;(conv=>whnf);rotate_right))
         all_goals trace_state
def cancelP (p q : Player) : Player × Player × Int:=
 if dealB p q = false then (p,q,110) else if ¬ p.wth = q.id then (p,q,108)
 else if ¬ (allS p.bag p.offer).2 = 0 then (p,q,104)
 else (freeP p (allS p.bag p.offer).1,waverP q p.id,0)
theorem cancel_api (p q : Player) (hp : OkP p) (hq : OkP q) : Api Tryz.prog 86 [playerV p,playerV q] (.tup [playerV (cancelP p q).1,playerV (cancelP p q).2.1,i64 (cancelP p q).2.2]):=by
 have h1:=townp_api p hp
 have h2:=townp_api q hq
 have h3:=deal_api p q hp hq
 have h4:=all_api p.bag p.offer (by have:=hp.nb;omega) hp.bag (by have:=hp.no;omega) hp.offer
 have h6:=free_api p
 have h7:=waver_api q p.id
 unfold cancelP
 cases hD : dealB p q with
 | false =>
   rw [if_pos rfl]
   rw [hD] at h3
   refine Api.of_fin cfg_ok Tryz.func86 rfl (nt:=45) rfl rfl ?_
   conv=>whnf
   repeat' (first|exact trivial|((first|refine kL ?_|(refine ⟨fun hb=>?_,fun hb=>?_⟩<;>(try simp only [nrm] at hb)<;>(try (first|(exfalso;omega)|contradiction|exact kB hb)))|refine kA h1 ?_|refine kD h1 ?_|refine kA h2 ?_|refine kD h2 ?_|refine kA h3 ?_|refine kD h3 ?_|refine kW cfg_ok ?_|refine kC ?_|refine bdA ?_|refine bd2 ?_|refine bdR ?_|refine bdL ?_)<;>(conv=>whnf))|(refine And.intro ?_ ?_;rotate_left;(conv=>whnf);rotate_right))
 | true =>
   rw [if_neg (by simp)]
   rw [hD] at h3
   by_cases hw : ¬ p.wth = q.id
   · rw [if_pos hw]
     refine Api.of_fin cfg_ok Tryz.func86 rfl (nt:=45) rfl rfl ?_
     conv=>whnf
     repeat' (first|exact trivial|((first|refine kL ?_|(refine ⟨fun hb=>?_,fun hb=>?_⟩<;>(try simp only [nrm] at hb)<;>(try (first|(exfalso;omega)|contradiction|exact kB hb)))|refine kA h1 ?_|refine kD h1 ?_|refine kA h2 ?_|refine kD h2 ?_|refine kA h3 ?_|refine kD h3 ?_|refine kW cfg_ok ?_|refine kC ?_|refine bdA ?_|refine bd2 ?_|refine bdR ?_|refine bdL ?_)<;>(conv=>whnf))|(refine And.intro ?_ ?_;rotate_left;(conv=>whnf);rotate_right))
   · rw [if_neg hw]
     generalize allS p.bag p.offer = A at *
     obtain ⟨A,x⟩:=A
     dsimp only at *
     by_cases hx : ¬ x = 0
     · rw [if_pos hx]
       refine Api.of_fin cfg_ok Tryz.func86 rfl (nt:=45) rfl rfl ?_
       conv=>whnf
       repeat' (first|exact trivial|((first|refine kL ?_|(refine ⟨fun hb=>?_,fun hb=>?_⟩<;>(try simp only [nrm] at hb)<;>(try (first|(exfalso;omega)|contradiction|exact kB hb)))|refine kA h1 ?_|refine kD h1 ?_|refine kA h2 ?_|refine kD h2 ?_|refine kA h3 ?_|refine kD h3 ?_|refine kA h4 ?_|refine kD h4 ?_|refine kW cfg_ok ?_|refine kC ?_|refine bdA ?_|refine bd2 ?_|refine bdR ?_|refine bdL ?_)<;>(conv=>whnf))|(refine And.intro ?_ ?_;rotate_left;(conv=>whnf);rotate_right))
     · rw [if_neg hx]
       refine Api.of_fin cfg_ok Tryz.func86 rfl (nt:=45) rfl rfl ?_
       conv=>whnf
       repeat' (first|exact trivial|((first|refine kL ?_|(refine ⟨fun hb=>?_,fun hb=>?_⟩<;>(try simp only [nrm] at hb)<;>(try (first|(exfalso;omega)|contradiction|exact kB hb)))|refine kA h1 ?_|refine kD h1 ?_|refine kA h2 ?_|refine kD h2 ?_|refine kA h3 ?_|refine kD h3 ?_|refine kA h4 ?_|refine kD h4 ?_|refine kA (h6 _) ?_|refine kD (h6 _) ?_|refine kA h7 ?_|refine kD h7 ?_|refine kW cfg_ok ?_|refine kC ?_|refine bdA ?_|refine bd2 ?_|refine bdR ?_|refine bdL ?_)<;>(conv=>whnf))|(refine And.intro ?_ ?_;rotate_left;(conv=>whnf);rotate_right))
open Go Go.RowKit Eng
theorem delete_cap (l : List (El .box)) (i j : Nat) (hij : i ≤ j) (hj : j ≤ l.length) (hl : l.length * 32 ≤ 140737488355328) (c : Nat) (hc : l.length ≤ c) : Ev1 Tryz.prog 110 [.own .box 1 0 l.length (some c),i64 i,i64 j] [(1,.row .box l)] (.own .box 1 0 (i + (l.length - j)) none) [(1,.row .box (l.take i ++ l.drop j))]:=by
 refine Ev1.of_fin cfg_ok Tryz.func110 rfl (nt:=30) rfl rfl rfl ?_
 have e1 : ((i : Int) - 0).toNat = i:=by omega
 have e2 : ((l.length : Int) - (j : Int)).toNat = l.length - j:=by omega
 have e3 : List.take (l.length - j) (l.drop j) = l.drop j:=List.take_of_length_le (by simp)
 conv=>whnf
 repeat' (first|exact trivial|((first|refine kL ?_|(refine ⟨fun hb=>?_,fun hb=>?_⟩<;>(try simp only [nrm] at hb)<;>(try (first|(exfalso;omega)|contradiction|exact kB hb)))|refine kW cfg_ok ?_|refine kC ?_|refine bdA ?_|refine bd2 ?_|refine bdR ?_|refine bdL ?_)<;>(conv=>whnf))|(refine And.intro ?_ ?_;rotate_left;(conv=>whnf);rotate_right))
 · obtain rfl : i = j:=by omega
   rw [List.take_length,List.take_append_drop]
 all_goals simp only [e1,e2,Int.toNat_natCast,Int.toNat_zero,Nat.add_zero,Nat.zero_add,e3,List.length_drop]
 · exact upon_length _ _ _ (by simp;omega)
 · rw [take_upon _ _ _ (by simp;omega),← List.append_assoc]
   exact List.take_left' (by simp;omega)
theorem delete_ev (l : List (El .box)) (i j : Nat) (hij : i ≤ j) (hj : j ≤ l.length) (hl : l.length * 32 ≤ 140737488355328) : Ev1 Tryz.prog 110 [.own .box 1 0 l.length none,i64 i,i64 j] [(1,.row .box l)] (.own .box 1 0 (i + (l.length - j)) none) [(1,.row .box (l.take i ++ l.drop j))]:=
 Ev1.cap fun c hc=>delete_cap l i j hij hj hl c hc
theorem ins_room (l : List (El .box)) (i : Nat) (b : El .box) (hi : i < l.length) : (upon (l.take (i + 1) ++ l.drop i) i [b]).take (l.length + 1) = l.take i ++ b :: l.drop i:=by
 unfold upon
 have h1 : (l.take (i + 1) ++ l.drop i).take i = l.take i:=by
   rw [List.take_append_of_le_length (by simp;omega),List.take_take,Nat.min_eq_left (by omega)]
 have h2 : (l.take (i + 1) ++ l.drop i).drop (i + ([b] : List (El .box)).length) = l.drop i:=List.drop_left' (by simp;omega)
 rw [h1,h2]
 exact List.take_of_length_le (by simp;omega)
theorem ins_len1 (l : List (El .box)) (i : Nat) (hi : i < l.length) : i ≤ (l.take (i + 1) ++ l.drop i).length:=by simp;omega
theorem ins_len2 (l : List (El .box)) (i : Nat) (b : El .box) (hi : i < l.length) : l.length + 1 ≤ (upon (l.take (i + 1) ++ l.drop i) i [b]).length:=by simp [upon];omega
set_option maxHeartbeats 2000000 in
theorem insert_cap (l : List (El .box)) (i : Nat) (b : El .box) (hi : i ≤ l.length) (hl : (l.length + 1) * 32 ≤ 140737488355328) (c : Nat) (hc : l.length ≤ c) : Ev1 Tryz.prog 111 [.own .box 1 0 l.length (some c),i64 i,.own .box 3 0 1 (some 1)] [(1,.row .box l),(3,.row .box [b])] (.own .box 390001 0 (l.length + 1) none) [(390001,.row .box (l.take i ++ b :: l.drop i))]:=by
 refine Ev1.of_fin cfg_ok Tryz.func111 rfl (nt:=92) rfl rfl rfl ?_
 conv=>whnf
 have e1 : ((i : Int) - 0).toNat = i:=by omega
 have e2 : ((l.length : Int) - (i : Int)).toNat = l.length - i:=by omega
 have e4 : ((l.length : Int) + 1 - (i : Int)).toNat = l.length + 1 - i:=by omega
 have e3 : List.take (l.length - i) (l.drop i) = l.drop i:=List.take_of_length_le (by simp)
 have e5 : ((i : Int) + 1).toNat = i + 1:=by omega
 have e6 : i + (l.length + 1 - i) = l.length + 1:=by omega
 have e7 : (((l.length + 1 : Nat) : Int) - (i : Int)).toNat = l.length + 1 - i:=by omega
 have e8 : (((l.length + 1 : Nat) : Int) - ((i : Int) + 1)).toNat = l.length - i:=by omega
 have e9 : ((l.length : Int) + 1 - ((i : Int) + 1)).toNat = l.length - i:=by omega
 have ea : ((l.length : Int) + 1).toNat = l.length + 1:=by omega
 have eb : min 1 (l.length + 1 - i) = 1:=by omega
 have ec : ((l.length : Int) + 1 - 0).toNat = l.length + 1:=by omega
 by_cases hcap : c < l.length + 1
 · repeat' (first|exact trivial|((first|refine kL ?_|(refine ⟨fun hb=>?_,fun hb=>?_⟩<;>(try simp only [nrm] at hb)<;>(try (first|(exfalso;omega)|contradiction|exact kB hb)))|refine kW cfg_ok ?_|refine kC ?_|refine bdA ?_|refine bd2 ?_|refine bdR ?_|refine bdL ?_)<;>(conv=>whnf))|(refine And.intro ?_ ?_;rotate_left;(conv=>whnf);rotate_right))
   · obtain rfl : i = l.length:=by omega
     simp only [List.take_length,List.drop_length]
     exact List.take_of_length_le (by simp)
   all_goals simp only [e1,e2,e3,e4,Int.natCast_one,e5,e6,e7,e8,e9,ea,eb,ec,Int.toNat_natCast,Int.toNat_zero,Nat.add_zero,Nat.zero_add,List.drop_zero,List.take_succ_cons,List.take_zero,List.length_cons,List.length_nil,Nat.min_self,List.length_drop]
   · simp [upon];omega
   · simp [upon];omega
   · generalize hR : List.replicate (l.length + 1 - i) (dflt Ty.box) = R
     have hRl : R.length = l.length + 1 - i:=by rw [← hR,List.length_replicate]
     have h1 : l.length + 1 = (i + 1) + (l.drop i).length:=by simp;omega
     rw [h1,upon_part _ _ _ (by simp [upon];omega)]
     have h2:=upon_part (l.take i ++ R) [b] i (by simp;omega)
     rw [List.length_singleton] at h2
     rw [h2,List.take_left' (by simp;omega)]
     simp
 · have ed : min (l.length + 1 - i) (l.length - i) = l.length - i:=by omega
   have hX : upon l (i + 1) (l.drop i) = l.take (i + 1) ++ l.drop i:=by
     unfold upon
     rw [show l.drop (i + 1 + (l.drop i).length) = [] from List.drop_eq_nil_of_le (by simp;omega),List.append_nil]
   repeat' (first|exact trivial|((first|refine kL ?_|(refine ⟨fun hb=>?_,fun hb=>?_⟩<;>(try simp only [nrm] at hb)<;>(try (first|(exfalso;omega)|contradiction|exact kB hb)))|refine kW cfg_ok ?_|refine kC ?_|refine bdA ?_|refine bd2 ?_|refine bdR ?_|refine bdL ?_)<;>(conv=>whnf))|(refine And.intro ?_ ?_;rotate_left;(conv=>whnf);rotate_right))
   · obtain rfl : i = l.length:=by omega
     simp only [List.take_length,List.drop_length]
     rw [← List.append_assoc,Nat.zero_add,List.take_length]
     have hlb : l.length + 1 = (l ++ [b]).length:=by rw [List.length_append];rfl
     exact List.take_left' hlb.symm
   all_goals simp only [e1,e2,e3,e4,Int.natCast_one,e5,e6,e7,e8,e9,ea,eb,ec,ed,Int.toNat_natCast,Int.toNat_zero,Nat.add_zero,Nat.zero_add,List.drop_zero,List.take_succ_cons,List.take_zero,List.length_cons,List.length_nil,Nat.min_self,List.length_drop,hX]
   · exact ins_len1 l i (by omega)
   · exact ins_len2 l i b (by omega)
   · exact ins_room l i b (by omega)
theorem insert_ev (l : List (El .box)) (i : Nat) (b : El .box) (hi : i ≤ l.length) (hl : (l.length + 1) * 32 ≤ 140737488355328) : Ev1 Tryz.prog 111 [.own .box 1 0 l.length none,i64 i,.own .box 3 0 1 (some 1)] [(1,.row .box l),(3,.row .box [b])] (.own .box 390001 0 (l.length + 1) none) [(390001,.row .box (l.take i ++ b :: l.drop i))]:=
 Ev1.cap fun c hc=>insert_cap l i b hi hl c hc
theorem insert_evn (l : List (El .box)) (n : Nat) (i : Nat) (b : El .box) (hn : n = l.length) (hi : i ≤ l.length) (hl : (l.length + 1) * 32 ≤ 140737488355328) : Ev1 Tryz.prog 111 [.own .box 1 0 n none,i64 i,.own .box 3 0 1 (some 1)] [(1,.row .box l),(3,.row .box [b])] (.own .box 390001 0 (n + 1) none) [(390001,.row .box (l.take i ++ b :: l.drop i))]:=by
 subst hn;exact insert_ev l i b hi hl
theorem delete_evn (l : List (El .box)) (n : Nat) (i j : Nat) (hn : n = l.length) (hij : i ≤ j) (hj : j ≤ l.length) (hl : l.length * 32 ≤ 140737488355328) : Ev1 Tryz.prog 110 [.own .box 1 0 n none,i64 i,i64 j] [(1,.row .box l)] (.own .box 1 0 (i + (n - j)) none) [(1,.row .box (l.take i ++ l.drop j))]:=by
 subst hn;exact delete_ev l i j hij hj hl
open Go Go.RowKit Eng
theorem rightGo_rises : ∀ (l : List Int) (k : Nat) (bs : List Box),rightGo l k bs = some [] → rises bs ∧ (∀ b ∈ bs,(k : Int) ≤ b.cell ∧ b.cell < k + l.length)
 | [],k,bs,h=>by simp [rightGo] at h;subst h;exact ⟨trivial,by simp⟩
 | i :: r,k,bs,h=>by
   simp only [rightGo] at h
   split at h
   · split at h
     · cases bs with
       | nil=>cases h
       | cons b bs =>
         simp only at h
         split at h
         · rename_i hb
           obtain ⟨h1,h2⟩:=rightGo_rises r (k + 1) bs h
           have hbk : b.cell = k:=by simp only [boxAt,Bool.and_eq_true,beq_iff_eq] at hb;exact hb.1
           refine ⟨⟨fun x hx=>by have:=(h2 x hx).1;omega,h1⟩,fun x hx=>?_⟩
           rcases List.mem_cons.1 hx with rfl|hx
           · simp only [List.length_cons];omega
           · have:=h2 x hx;simp only [List.length_cons];omega
         · cases h
     · obtain ⟨h1,h2⟩:=rightGo_rises r (k + 1) bs h
       exact ⟨h1,fun x hx=>by have:=h2 x hx;simp only [List.length_cons];omega⟩
   · cases h
structure RightC (c : Chunk) : Prop where
 head : headB c = true
 go : rightGo c.cells 0 c.boxes = some []
 heaps : c.heaps.any badHeap = false
theorem rightC_of {c : Chunk} (h : rightB c = true) : RightC c:=by
 unfold rightB at h
 simp only [Bool.and_eq_true] at h
 obtain ⟨h1,h2⟩:=h
 split at h2
 · rename_i hg;exact ⟨h1,hg,by simpa using h2⟩
 · cases h2
theorem RightC.len {c : Chunk} (h : RightC c) : c.cells.length = 64:=by
 have:=h.head;simp only [headB,Bool.and_eq_true,decide_eq_true_eq] at this;omega
theorem RightC.rises {c : Chunk} (h : RightC c) : rises c.boxes:=(rightGo_rises _ _ _ h.go).1
theorem thereB_lt {l : List Box} {t : Int} (h : thereB l t = true) : lb t l < l.length ∧ (elt .box l (lb t l)).cell = t:=by
 simp only [thereB,Bool.and_eq_true,decide_eq_true_eq,beq_iff_eq] at h;exact h
def posSlot (s : Slot) : Bool:=decide (0 < s.n)
def anySlot (_ : Slot) : Prop:=True
def newBag : List Slot:=List.replicate 6 ⟨0,0⟩
def fullB (l : List Slot) : Bool:=l.any posSlot
def delB (l : List Box) (t : Int) : List Box:=if thereB l t then l.take (lb t l) ++ l.drop (lb t l + 1) else l
def putB (l : List Box) (t : Int) (i : Int) : List Box:=if i = 9 then (delB l t).take (lb t l) ++ (⟨t,newBag⟩ : Box) :: (delB l t).drop (lb t l) else delB l t
def setC (c : Chunk) (cell i : Int) : Chunk × Int:=
 if rightB c = false then (c,101) else if ¬ (0 ≤ cell ∧ cell < 64) then (c,102) else if ¬ (i = 0) ∧ blockB i = false then (c,100)
 else if thereB c.boxes cell = true ∧ fullB (elt .box c.boxes (lb cell c.boxes)).bag = true then (c,104)
 else ({ c with cells:=c.cells.set cell.toNat i,boxes:=putB c.boxes cell i },0)
theorem set1_api (s : Slot) (h : anySlot s) : Api Tryz.prog 109 [.agg [.lit (.int .u8 s.item),.lit (.int .i64 s.n)]] (bol (posSlot s)):=by
 refine Api.of_fin cfg_ok Tryz.func109 rfl (nt:=5) rfl rfl ?_
 conv=>whnf
 repeat' (first|exact trivial|((first|refine kL ?_|(refine ⟨fun hb=>?_,fun hb=>?_⟩<;>(try simp only [nrm] at hb)<;>(try (first|(exfalso;omega)|contradiction|exact kB hb)))|refine kW cfg_ok ?_|refine kC ?_|refine bdA ?_|refine bd2 ?_|refine bdR ?_|refine bdL ?_)<;>(conv=>whnf))|(refine And.intro ?_ ?_;rotate_left;(conv=>whnf);rotate_right))
 all_goals rfl
theorem idx_full (l : List (El .slot)) (hl : l.length ≤ big) (hw : ∀ s ∈ l,anySlot s) : Api Tryz.prog 145 [.vec .slot l,.lit (.func (.func 109) #[] #[])] (i64 (idxGo posSlot l 0)):=by
 unfold big at hl
 refine Api.of_fin cfg_ok Tryz.func145 rfl (nt:=17) rfl rfl ?_
 conv=>whnf
 refine Runs.loopS cfg_ok (σ:=Nat) [0,1,7,8] (fun k=>[.vec .slot l,.lit (.func (.func 109) #[] #[]),i64 l.length,i64 k]) (fun _=>[]) (fun k=>k ≤ l.length ∧ idxGo posSlot (l.drop k) k = idxGo posSlot l 0) (fun k=>l.length - k) 0 ⟨by omega,rfl⟩ ?_ ?_
 · conv=>whnf
   repeat' (first|exact trivial|((first|refine kL ?_|(refine ⟨fun hb=>?_,fun hb=>?_⟩<;>(try simp only [nrm] at hb)<;>(try (first|(exfalso;omega)|contradiction|exact kB hb)))|refine kW cfg_ok ?_|refine kC ?_|refine bdA ?_|refine bd2 ?_|refine bdR ?_|refine bdL ?_)<;>(conv=>whnf))|(refine And.intro ?_ ?_;rotate_left;(conv=>whnf);rotate_right))
 · intro k ⟨hk,he⟩
   by_cases hlt : k < l.length
   · rw [drop_elt hlt] at he
     simp only [idxGo] at he
     conv=>whnf
     repeat' (first|exact trivial|((first|refine kL ?_|(refine ⟨fun hb=>?_,fun hb=>?_⟩<;>(try simp only [nrm] at hb)<;>(try (first|(exfalso;omega)|contradiction|exact kB hb)))|(refine isE 109 ?_;refine kA (set1_api _ (hw _ (elt_mem' (by omega) (by omega)))) ?_)|(refine isD 109 ?_;refine kD (set1_api _ (hw _ (elt_mem' (by omega) (by omega)))) ?_)|refine kW cfg_ok ?_|refine kC ?_|refine bdA ?_|refine bd2 ?_|refine bdR ?_|refine bdL ?_)<;>(conv=>whnf))|(refine And.intro ?_ ?_;rotate_left;(conv=>whnf);rotate_right))
     · simp only [posSlot,Bool.and_eq_true,Bool.or_eq_true,Bool.not_eq_true',Bool.and_eq_false_iff,Bool.or_eq_false_iff,decide_eq_true_eq,decide_eq_false_iff_not] at hb he
       rw [← he,if_pos hb]
     · simp only [posSlot,Bool.and_eq_true,Bool.or_eq_true,Bool.not_eq_true',Bool.and_eq_false_iff,Bool.or_eq_false_iff,decide_eq_true_eq,decide_eq_false_iff_not] at hb
       refine .to (k + 1) ⟨hlt,?_⟩ (by omega) ?_
       · rw [← he,if_neg (by simp only [posSlot,Bool.and_eq_true,Bool.or_eq_true,Bool.not_eq_true',Bool.and_eq_false_iff,Bool.or_eq_false_iff,decide_eq_true_eq,decide_eq_false_iff_not];first|omega|(simp [hb];done)|(simp_all;done))]
       · conv=>whnf
         repeat' (first|exact trivial|((first|refine kL ?_|(refine ⟨fun hb=>?_,fun hb=>?_⟩<;>(try simp only [nrm] at hb)<;>(try (first|(exfalso;omega)|contradiction|exact kB hb)))|refine kW cfg_ok ?_|refine kC ?_|refine bdA ?_|refine bd2 ?_|refine bdR ?_|refine bdL ?_)<;>(conv=>whnf))|(refine And.intro ?_ ?_;rotate_left;(conv=>whnf);rotate_right))
   · conv=>whnf
     repeat' (first|exact trivial|((first|refine kL ?_|(refine ⟨fun hb=>?_,fun hb=>?_⟩<;>(try simp only [nrm] at hb)<;>(try (first|(exfalso;omega)|contradiction|exact kB hb)))|refine kW cfg_ok ?_|refine kC ?_|refine bdA ?_|refine bd2 ?_|refine bdR ?_|refine bdL ?_)<;>(conv=>whnf))|(refine And.intro ?_ ?_;rotate_left;(conv=>whnf);rotate_right))
     have : k = l.length:=by omega
     subst this
     simp only [List.drop_length,idxGo] at he
     rw [← he]
theorem has_full (l : List (El .slot)) (hl : l.length ≤ big) (hw : ∀ s ∈ l,anySlot s) : Api Tryz.prog 108 [.vec .slot l,.lit (.func (.func 109) #[] #[])] (bol (l.any posSlot)):=by
 refine Api.of_fin cfg_ok Tryz.func108 rfl (nt:=7) rfl rfl ?_
 conv=>whnf
 repeat' (first|exact trivial|((first|refine kL ?_|(refine ⟨fun hb=>?_,fun hb=>?_⟩<;>(try simp only [nrm] at hb)<;>(try (first|(exfalso;omega)|contradiction|exact kB hb)))|(refine isE 145 ?_;refine kA (idx_full l hl hw) ?_)|(refine isD 145 ?_;refine kD (idx_full l hl hw) ?_)|refine kW cfg_ok ?_|refine kC ?_|refine bdA ?_|refine bd2 ?_|refine bdR ?_|refine bdL ?_)<;>(conv=>whnf))|(refine And.intro ?_ ?_;rotate_left;(conv=>whnf);rotate_right))
 rw [idxGo_any]
theorem set_api (c : Chunk) (cell i : Int) (hc : OkC c) (hf : FitC c) (h0 : 0 ≤ i) (h1 : i ≤ 255) : Api Tryz.prog 69 [chunkV c,i64 cell,.lit (.int .u8 i)] (.tup [chunkV (setC c cell i).1,i64 (setC c cell i).2]):=by
 have hrt:=cright_api c hc
 have hbx:=hf.boxes
 cases hR : rightB c with
 | false =>
   rw [hR] at hrt
   have hs : setC c cell i = (c,101):=by unfold setC;rw [if_pos hR]
   rw [hs]
   refine Api.of_fin cfg_ok Tryz.func69 rfl (nt:=73) rfl rfl ?_
   conv=>whnf
   repeat' (first|exact trivial|((first|refine kL ?_|(refine ⟨fun hb=>?_,fun hb=>?_⟩<;>(try simp only [nrm] at hb)<;>(try (first|(exfalso;omega)|contradiction|exact kB hb)))|(refine isE 106 ?_;refine kE (copied_ev c hf) [(390001,150001),(390003,150003),(390005,150005)] rfl ?_)|(refine isD 106 ?_;refine kF (copied_ev c hf) [(390001,150001),(390003,150003),(390005,150005)] rfl ?_)|refine kA hrt ?_|refine kD hrt ?_|refine kW cfg_ok ?_|refine kC ?_|refine bdA ?_|refine bd2 ?_|refine bdR ?_|refine bdL ?_)<;>(conv=>whnf))|(refine And.intro ?_ ?_;rotate_left;(conv=>whnf);rotate_right))
   all_goals simp
 | true =>
   rw [hR] at hrt
   have hRC:=rightC_of hR
   have hlen:=hRC.len
   by_cases hin : 0 ≤ cell ∧ cell < 64
   · by_cases hit : ¬ (i = 0) ∧ blockB i = false
     · have hs : setC c cell i = (c,100):=by unfold setC;rw [if_neg (by rw [hR];simp),if_neg (by omega),if_pos hit]
       rw [hs]
       have hbl:=block_api i h0 h1
       rw [hit.2] at hbl
       refine Api.of_fin cfg_ok Tryz.func69 rfl (nt:=73) rfl rfl ?_
       conv=>whnf
       repeat' (first|exact trivial|((first|refine kL ?_|(refine ⟨fun hb=>?_,fun hb=>?_⟩<;>(try simp only [nrm] at hb)<;>(try (first|(exfalso;omega)|contradiction|exact kB hb)))|(refine isE 106 ?_;refine kE (copied_ev c hf) [(390001,150001),(390003,150003),(390005,150005)] rfl ?_)|(refine isD 106 ?_;refine kF (copied_ev c hf) [(390001,150001),(390003,150003),(390005,150005)] rfl ?_)|refine kA hrt ?_|refine kD hrt ?_|(refine isE 50 ?_;refine kA (inside_api _) ?_)|(refine isD 50 ?_;refine kD (inside_api _) ?_)|refine kA hbl ?_|refine kD hbl ?_|refine kW cfg_ok ?_|refine kC ?_|refine bdA ?_|refine bd2 ?_|refine bdR ?_|refine bdL ?_)<;>(conv=>whnf))|(refine And.intro ?_ ?_;rotate_left;(conv=>whnf);rotate_right))
       all_goals simp
     · have hbl:=block_api i h0 h1
       have hbi : blockB i = false → i = 0:=fun hbf=>by
         rcases Classical.em (i = 0) with h|h
         · exact h
         · exact absurd ⟨h,hbf⟩ hit
       have hle : c.boxes.length ≤ 4000000000000000000:=by omega
       have hfd:=find_own c.boxes cell hle hRC.rises
       have hlb:=lb_le cell c.boxes
       generalize hat : lb cell c.boxes = at_ at *
       cases hT : thereB c.boxes cell with
       | false =>
         rw [hT] at hfd
         have hs : setC c cell i = ({ c with cells:=c.cells.set cell.toNat i,boxes:=putB c.boxes cell i },0):=by unfold setC;rw [if_neg (by rw [hR];simp),if_neg (by omega),if_neg hit,if_neg (by rw [hT];simp)]
         have hd : delB c.boxes cell = c.boxes:=by unfold delB;rw [hT];rfl
         rw [hs]
         by_cases h9 : i = 9
         · have hp : putB c.boxes cell i = c.boxes.take at_ ++ (⟨cell,newBag⟩ : Box) :: c.boxes.drop at_:=by unfold putB;rw [if_pos h9,hd,hat]
           rw [hp]
           subst h9
           refine Api.of_fin cfg_ok Tryz.func69 rfl (nt:=73) rfl rfl ?_
           conv=>whnf
           repeat' (first|exact trivial|((first|refine kL ?_|(refine ⟨fun hb=>?_,fun hb=>?_⟩<;>(try simp only [nrm] at hb)<;>(try (first|(exfalso;omega)|contradiction|exact kB hb)))|(refine isE 106 ?_;refine kE (copied_ev c hf) [(390001,150001),(390003,150003),(390005,150005)] rfl ?_)|(refine isD 106 ?_;refine kF (copied_ev c hf) [(390001,150001),(390003,150003),(390005,150005)] rfl ?_)|refine kE hfd [(1,150005)] rfl ?_|refine kF hfd [(1,150005)] rfl ?_|(refine isE 111 ?_;refine kE (insert_evn c.boxes _ at_ ⟨cell,newBag⟩ rfl hlb (by omega)) [(1,150005),(3,135),(390001,150007)] rfl ?_)|(refine isD 111 ?_;refine kF (insert_evn c.boxes _ at_ ⟨cell,newBag⟩ rfl hlb (by omega)) [(1,150005),(3,135),(390001,150007)] rfl ?_)|refine kA hrt ?_|refine kD hrt ?_|(refine isE 50 ?_;refine kA (inside_api _) ?_)|(refine isD 50 ?_;refine kD (inside_api _) ?_)|refine kA hbl ?_|refine kD hbl ?_|(refine isE 31 ?_;refine kA (new_api 6 (by omega) (by omega)) ?_)|(refine isD 31 ?_;refine kD (new_api 6 (by omega) (by omega)) ?_)|refine kW cfg_ok ?_|refine kC ?_|refine bdA ?_|refine bd2 ?_|refine bdR ?_|refine bdL ?_)<;>(conv=>whnf))|(refine And.intro ?_ ?_;rotate_left;(conv=>whnf);rotate_right))
           all_goals (try simp only [List.drop_zero,Nat.add_zero])
           all_goals first|(simp;done)|(refine List.take_of_length_le ?_;simp;done)|(refine List.take_of_length_le ?_;simp;omega)
         · have hp : putB c.boxes cell i = c.boxes:=by unfold putB;rw [if_neg h9,hd]
           rw [hp]
           refine Api.of_fin cfg_ok Tryz.func69 rfl (nt:=73) rfl rfl ?_
           conv=>whnf
           repeat' (first|exact trivial|((first|refine kL ?_|(refine ⟨fun hb=>?_,fun hb=>?_⟩<;>(try simp only [nrm] at hb)<;>(try (first|(exfalso;omega)|contradiction|exact kB hb)))|(exact absurd (hbi (by assumption)) (by assumption);done)|(refine isE 106 ?_;refine kE (copied_ev c hf) [(390001,150001),(390003,150003),(390005,150005)] rfl ?_)|(refine isD 106 ?_;refine kF (copied_ev c hf) [(390001,150001),(390003,150003),(390005,150005)] rfl ?_)|refine kE hfd [(1,150005)] rfl ?_|refine kF hfd [(1,150005)] rfl ?_|refine kA hrt ?_|refine kD hrt ?_|(refine isE 50 ?_;refine kA (inside_api _) ?_)|(refine isD 50 ?_;refine kD (inside_api _) ?_)|refine kA hbl ?_|refine kD hbl ?_|refine kW cfg_ok ?_|refine kC ?_|refine bdA ?_|refine bd2 ?_|refine bdR ?_|refine bdL ?_)<;>(conv=>whnf))|(refine And.intro ?_ ?_;rotate_left;(conv=>whnf);rotate_right))
           all_goals (try simp only [List.drop_zero,Nat.add_zero])
           all_goals first|(simp;done)|(refine List.take_of_length_le ?_;simp;done)|(refine List.take_of_length_le ?_;simp;omega)
       | true =>
         rw [hT] at hfd
         obtain ⟨hlt,hce⟩:=thereB_lt hT
         rw [hat] at hlt hce
         have hfu:=has_full (elt .box c.boxes at_).bag (Nat.le_trans (hc.boxes _ (elt_mem (t:=.box) hlt)).2 (Nat.le_refl _)) (fun _ _=>trivial)
         have hfb : fullB (elt .box c.boxes at_).bag = (elt .box c.boxes at_).bag.any posSlot:=rfl
         cases hF : fullB (elt .box c.boxes at_).bag with
         | true =>
           rw [← hfb,hF] at hfu
           have hs : setC c cell i = (c,104):=by unfold setC;rw [if_neg (by rw [hR];simp),if_neg (by omega),if_neg hit,if_pos (by rw [hT,hat,hF];simp)]
           rw [hs]
           refine Api.of_fin cfg_ok Tryz.func69 rfl (nt:=73) rfl rfl ?_
           conv=>whnf
           repeat' (first|exact trivial|((first|refine kL ?_|(refine ⟨fun hb=>?_,fun hb=>?_⟩<;>(try simp only [nrm] at hb)<;>(try (first|(exfalso;omega)|contradiction|exact kB hb)))|(exact absurd (hbi (by assumption)) (by assumption);done)|(refine isE 106 ?_;refine kE (copied_ev c hf) [(390001,150001),(390003,150003),(390005,150005)] rfl ?_)|(refine isD 106 ?_;refine kF (copied_ev c hf) [(390001,150001),(390003,150003),(390005,150005)] rfl ?_)|refine kE hfd [(1,150005)] rfl ?_|refine kF hfd [(1,150005)] rfl ?_|refine kA hrt ?_|refine kD hrt ?_|(refine isE 50 ?_;refine kA (inside_api _) ?_)|(refine isD 50 ?_;refine kD (inside_api _) ?_)|refine kA hbl ?_|refine kD hbl ?_|refine kA hfu ?_|refine kD hfu ?_|refine kW cfg_ok ?_|refine kC ?_|refine bdA ?_|refine bd2 ?_|refine bdR ?_|refine bdL ?_)<;>(conv=>whnf))|(refine And.intro ?_ ?_;rotate_left;(conv=>whnf);rotate_right))
           all_goals simp
         | false =>
           rw [← hfb,hF] at hfu
           have hs : setC c cell i = ({ c with cells:=c.cells.set cell.toNat i,boxes:=putB c.boxes cell i },0):=by unfold setC;rw [if_neg (by rw [hR];simp),if_neg (by omega),if_neg hit,if_neg (by rw [hat,hF];simp)]
           have hd : delB c.boxes cell = c.boxes.take at_ ++ c.boxes.drop (at_ + 1):=by unfold delB;rw [hT,hat];rfl
           have hdl : at_ + (c.boxes.length - (at_ + 1)) = (c.boxes.take at_ ++ c.boxes.drop (at_ + 1)).length:=by simp;omega
           rw [hs]
           by_cases h9 : i = 9
           · have hp : putB c.boxes cell i = (c.boxes.take at_ ++ c.boxes.drop (at_ + 1)).take at_ ++ (⟨cell,newBag⟩ : Box) :: (c.boxes.take at_ ++ c.boxes.drop (at_ + 1)).drop at_:=by unfold putB;rw [if_pos h9,hd,hat]
             rw [hp]
             subst h9
             refine Api.of_fin cfg_ok Tryz.func69 rfl (nt:=73) rfl rfl ?_
             conv=>whnf
             repeat' (first|exact trivial|((first|refine kL ?_|(refine ⟨fun hb=>?_,fun hb=>?_⟩<;>(try simp only [nrm] at hb)<;>(try (first|(exfalso;omega)|contradiction|exact kB hb)))|(refine isE 106 ?_;refine kE (copied_ev c hf) [(390001,150001),(390003,150003),(390005,150005)] rfl ?_)|(refine isD 106 ?_;refine kF (copied_ev c hf) [(390001,150001),(390003,150003),(390005,150005)] rfl ?_)|refine kE hfd [(1,150005)] rfl ?_|refine kF hfd [(1,150005)] rfl ?_|(refine isE 110 ?_;refine kE (delete_evn c.boxes _ at_ (at_ + 1) rfl (by omega) (by omega) (by omega)) [(1,150005)] rfl ?_)|(refine isD 110 ?_;refine kF (delete_evn c.boxes _ at_ (at_ + 1) rfl (by omega) (by omega) (by omega)) [(1,150005)] rfl ?_)|(refine isE 111 ?_;refine kE (insert_evn (c.boxes.take at_ ++ c.boxes.drop (at_ + 1)) _ at_ ⟨cell,newBag⟩ hdl (by omega) (by omega)) [(1,150005),(3,135),(390001,150007)] rfl ?_)|(refine isD 111 ?_;refine kF (insert_evn (c.boxes.take at_ ++ c.boxes.drop (at_ + 1)) _ at_ ⟨cell,newBag⟩ hdl (by omega) (by omega)) [(1,150005),(3,135),(390001,150007)] rfl ?_)|refine kA hrt ?_|refine kD hrt ?_|(refine isE 50 ?_;refine kA (inside_api _) ?_)|(refine isD 50 ?_;refine kD (inside_api _) ?_)|refine kA hbl ?_|refine kD hbl ?_|refine kA hfu ?_|refine kD hfu ?_|(refine isE 31 ?_;refine kA (new_api 6 (by omega) (by omega)) ?_)|(refine isD 31 ?_;refine kD (new_api 6 (by omega) (by omega)) ?_)|refine kW cfg_ok ?_|refine kC ?_|refine bdA ?_|refine bd2 ?_|refine bdR ?_|refine bdL ?_)<;>(conv=>whnf))|(refine And.intro ?_ ?_;rotate_left;(conv=>whnf);rotate_right))
             all_goals (try simp only [List.drop_zero,Nat.add_zero])
             all_goals first|(simp;done)|(refine List.take_of_length_le ?_;simp;done)|(refine List.take_of_length_le ?_;simp;omega)
           · have hp : putB c.boxes cell i = c.boxes.take at_ ++ c.boxes.drop (at_ + 1):=by unfold putB;rw [if_neg h9,hd]
             rw [hp]
             refine Api.of_fin cfg_ok Tryz.func69 rfl (nt:=73) rfl rfl ?_
             conv=>whnf
             repeat' (first|exact trivial|((first|refine kL ?_|(refine ⟨fun hb=>?_,fun hb=>?_⟩<;>(try simp only [nrm] at hb)<;>(try (first|(exfalso;omega)|contradiction|exact kB hb)))|(exact absurd (hbi (by assumption)) (by assumption);done)|(refine isE 106 ?_;refine kE (copied_ev c hf) [(390001,150001),(390003,150003),(390005,150005)] rfl ?_)|(refine isD 106 ?_;refine kF (copied_ev c hf) [(390001,150001),(390003,150003),(390005,150005)] rfl ?_)|refine kE hfd [(1,150005)] rfl ?_|refine kF hfd [(1,150005)] rfl ?_|(refine isE 110 ?_;refine kE (delete_evn c.boxes _ at_ (at_ + 1) rfl (by omega) (by omega) (by omega)) [(1,150005)] rfl ?_)|(refine isD 110 ?_;refine kF (delete_evn c.boxes _ at_ (at_ + 1) rfl (by omega) (by omega) (by omega)) [(1,150005)] rfl ?_)|refine kA hrt ?_|refine kD hrt ?_|(refine isE 50 ?_;refine kA (inside_api _) ?_)|(refine isD 50 ?_;refine kD (inside_api _) ?_)|refine kA hbl ?_|refine kD hbl ?_|refine kA hfu ?_|refine kD hfu ?_|refine kW cfg_ok ?_|refine kC ?_|refine bdA ?_|refine bd2 ?_|refine bdR ?_|refine bdL ?_)<;>(conv=>whnf))|(refine And.intro ?_ ?_;rotate_left;(conv=>whnf);rotate_right))
             all_goals (try simp only [List.drop_zero,Nat.add_zero])
             all_goals first|(simp;done)|(refine List.take_of_length_le ?_;simp;done)|(refine List.take_of_length_le ?_;simp;omega)
   · have hs : setC c cell i = (c,102):=by unfold setC;rw [if_neg (by rw [hR];simp),if_pos hin]
     rw [hs]
     refine Api.of_fin cfg_ok Tryz.func69 rfl (nt:=73) rfl rfl ?_
     conv=>whnf
     repeat' (first|exact trivial|((first|refine kL ?_|(refine ⟨fun hb=>?_,fun hb=>?_⟩<;>(try simp only [nrm] at hb)<;>(try (first|(exfalso;omega)|contradiction|exact kB hb)))|(refine isE 106 ?_;refine kE (copied_ev c hf) [(390001,150001),(390003,150003),(390005,150005)] rfl ?_)|(refine isD 106 ?_;refine kF (copied_ev c hf) [(390001,150001),(390003,150003),(390005,150005)] rfl ?_)|refine kA hrt ?_|refine kD hrt ?_|(refine isE 50 ?_;refine kA (inside_api _) ?_)|(refine isD 50 ?_;refine kD (inside_api _) ?_)|refine kW cfg_ok ?_|refine kC ?_|refine bdA ?_|refine bd2 ?_|refine bdR ?_|refine bdL ?_)<;>(conv=>whnf))|(refine And.intro ?_ ?_;rotate_left;(conv=>whnf);rotate_right))
     all_goals simp
open Go Go.RowKit Eng
def boxC (c : Chunk) (cell : Int) : List Slot × Bool:=
 if rightB c = false then ([],false) else if thereB c.boxes cell = true then ((elt .box c.boxes (lb cell c.boxes)).bag,true) else ([],false)
theorem box_api (c : Chunk) (cell : Int) (hc : OkC c) (hf : FitC c) : Api Tryz.prog 78 [chunkV c,i64 cell] (.tup [.vec .slot (boxC c cell).1,bol (boxC c cell).2]):=by
 have hrt:=cright_api c hc
 have hbx:=hf.boxes
 cases hR : rightB c with
 | false =>
   rw [hR] at hrt
   have hs : boxC c cell = ([],false):=by unfold boxC;rw [if_pos hR]
   rw [hs]
   refine Api.of_fin cfg_ok Tryz.func78 rfl (nt:=25) rfl rfl ?_
   conv=>whnf
   repeat' (first|exact trivial|((first|refine kL ?_|(refine ⟨fun hb=>?_,fun hb=>?_⟩<;>(try simp only [nrm] at hb)<;>(try (first|(exfalso;omega)|contradiction|exact kB hb)))|refine kA hrt ?_|refine kD hrt ?_|refine kW cfg_ok ?_|refine kC ?_|refine bdA ?_|refine bd2 ?_|refine bdR ?_|refine bdL ?_)<;>(conv=>whnf))|(refine And.intro ?_ ?_;rotate_left;(conv=>whnf);rotate_right))
 | true =>
   rw [hR] at hrt
   have hRC:=rightC_of hR
   have hle : c.boxes.length ≤ 4000000000000000000:=by omega
   have hfd:=find_api c.boxes cell hle hRC.rises
   generalize hat : lb cell c.boxes = at_ at *
   cases hT : thereB c.boxes cell with
   | false =>
     rw [hT] at hfd
     have hs : boxC c cell = ([],false):=by unfold boxC;rw [if_neg (by rw [hR];simp),if_neg (by rw [hT];simp)]
     rw [hs]
     refine Api.of_fin cfg_ok Tryz.func78 rfl (nt:=25) rfl rfl ?_
     conv=>whnf
     repeat' (first|exact trivial|((first|refine kL ?_|(refine ⟨fun hb=>?_,fun hb=>?_⟩<;>(try simp only [nrm] at hb)<;>(try (first|(exfalso;omega)|contradiction|exact kB hb)))|refine kA hrt ?_|refine kD hrt ?_|refine kA hfd ?_|refine kD hfd ?_|refine kW cfg_ok ?_|refine kC ?_|refine bdA ?_|refine bd2 ?_|refine bdR ?_|refine bdL ?_)<;>(conv=>whnf))|(refine And.intro ?_ ?_;rotate_left;(conv=>whnf);rotate_right))
   | true =>
     rw [hT] at hfd
     obtain ⟨hlt,hce⟩:=thereB_lt hT
     rw [hat] at hlt hce
     have hbk:=hf.bags _ (elt_mem (t:=.box) hlt)
     have hs : boxC c cell = ((elt .box c.boxes at_).bag,true):=by unfold boxC;rw [if_neg (by rw [hR];simp),if_pos hT,hat]
     rw [hs]
     refine Api.of_fin cfg_ok Tryz.func78 rfl (nt:=25) rfl rfl ?_
     conv=>whnf
     repeat' (first|exact trivial|((first|refine kL ?_|(refine ⟨fun hb=>?_,fun hb=>?_⟩<;>(try simp only [nrm] at hb)<;>(try (first|(exfalso;omega)|contradiction|exact kB hb)))|refine kA hrt ?_|refine kD hrt ?_|refine kA hfd ?_|refine kD hfd ?_|(refine isE 89 ?_;refine kA (cloneV_slots (elt .box c.boxes at_).bag (by omega)) ?_)|(refine isD 89 ?_;refine kD (cloneV_slots (elt .box c.boxes at_).bag (by omega)) ?_)|refine kW cfg_ok ?_|refine kC ?_|refine bdA ?_|refine bd2 ?_|refine bdR ?_|refine bdL ?_)<;>(conv=>whnf))|(refine And.intro ?_ ?_;rotate_left;(conv=>whnf);rotate_right))
def fillC (c : Chunk) (cell : Int) (l : List Slot) : Chunk × Int:=
 if rightB c = false then (c,101) else if thereB c.boxes cell = false then (c,102)
 else if ¬ (l.length = 6 ∧ bagOk l = true) then (c,103)
 else ({ c with boxes:=c.boxes.set (lb cell c.boxes) ⟨cell,l⟩ },0)
theorem fill_api (c : Chunk) (cell : Int) (l : List (El .slot)) (hc : OkC c) (hf : FitC c) (hl : l.length * 16 ≤ 140737488351232) (hw : ∀ s ∈ l,okSlot s) : Api Tryz.prog 80 [chunkV c,i64 cell,.vec .slot l] (.tup [chunkV (fillC c cell l).1,i64 (fillC c cell l).2]):=by
 have hrt:=cright_api c hc
 have hbx:=hf.boxes
 cases hR : rightB c with
 | false =>
   rw [hR] at hrt
   have hs : fillC c cell l = (c,101):=by unfold fillC;rw [if_pos hR]
   rw [hs]
   refine Api.of_fin cfg_ok Tryz.func80 rfl (nt:=39) rfl rfl ?_
   conv=>whnf
   repeat' (first|exact trivial|((first|refine kL ?_|(refine ⟨fun hb=>?_,fun hb=>?_⟩<;>(try simp only [nrm] at hb)<;>(try (first|(exfalso;omega)|contradiction|exact kB hb)))|(refine isE 106 ?_;refine kE (copied_ev c hf) [(390001,150001),(390003,150003),(390005,150005)] rfl ?_)|(refine isD 106 ?_;refine kF (copied_ev c hf) [(390001,150001),(390003,150003),(390005,150005)] rfl ?_)|refine kA hrt ?_|refine kD hrt ?_|refine kW cfg_ok ?_|refine kC ?_|refine bdA ?_|refine bd2 ?_|refine bdR ?_|refine bdL ?_)<;>(conv=>whnf))|(refine And.intro ?_ ?_;rotate_left;(conv=>whnf);rotate_right))
   all_goals simp
 | true =>
   rw [hR] at hrt
   have hRC:=rightC_of hR
   have hle : c.boxes.length ≤ 4000000000000000000:=by omega
   have hfd:=find_own c.boxes cell hle hRC.rises
   have hbr:=bagRight_api l 6 (by unfold big;omega) hw
   generalize hat : lb cell c.boxes = at_ at *
   cases hT : thereB c.boxes cell with
   | false =>
     rw [hT] at hfd
     have hs : fillC c cell l = (c,102):=by unfold fillC;rw [if_neg (by rw [hR];simp),if_pos hT]
     rw [hs]
     refine Api.of_fin cfg_ok Tryz.func80 rfl (nt:=39) rfl rfl ?_
     conv=>whnf
     repeat' (first|exact trivial|((first|refine kL ?_|(refine ⟨fun hb=>?_,fun hb=>?_⟩<;>(try simp only [nrm] at hb)<;>(try (first|(exfalso;omega)|contradiction|exact kB hb)))|(refine isE 106 ?_;refine kE (copied_ev c hf) [(390001,150001),(390003,150003),(390005,150005)] rfl ?_)|(refine isD 106 ?_;refine kF (copied_ev c hf) [(390001,150001),(390003,150003),(390005,150005)] rfl ?_)|refine kE hfd [(1,150005)] rfl ?_|refine kF hfd [(1,150005)] rfl ?_|refine kA hrt ?_|refine kD hrt ?_|refine kW cfg_ok ?_|refine kC ?_|refine bdA ?_|refine bd2 ?_|refine bdR ?_|refine bdL ?_)<;>(conv=>whnf))|(refine And.intro ?_ ?_;rotate_left;(conv=>whnf);rotate_right))
     all_goals simp
   | true =>
     rw [hT] at hfd
     obtain ⟨hlt,hce⟩:=thereB_lt hT
     rw [hat] at hlt hce
     by_cases hb6 : l.length = 6 ∧ bagOk l = true
     · have hbv : (decide ((l.length : Int) = 6) && bagOk l) = true:=by rw [hb6.2,Bool.and_true];exact decide_eq_true (by omega)
       rw [hbv] at hbr
       have hs : fillC c cell l = ({ c with boxes:=c.boxes.set at_ ⟨cell,l⟩ },0):=by unfold fillC;rw [if_neg (by rw [hR];simp),if_neg (by rw [hT];simp),if_neg (by simp only [Decidable.not_not];exact hb6),hat]
       rw [hs]
       refine Api.of_fin cfg_ok Tryz.func80 rfl (nt:=39) rfl rfl ?_
       conv=>whnf
       repeat' (first|exact trivial|((first|refine kL ?_|(refine ⟨fun hb=>?_,fun hb=>?_⟩<;>(try simp only [nrm] at hb)<;>(try (first|(exfalso;omega)|contradiction|exact kB hb)))|(refine isE 106 ?_;refine kE (copied_ev c hf) [(390001,150001),(390003,150003),(390005,150005)] rfl ?_)|(refine isD 106 ?_;refine kF (copied_ev c hf) [(390001,150001),(390003,150003),(390005,150005)] rfl ?_)|refine kE hfd [(1,150005)] rfl ?_|refine kF hfd [(1,150005)] rfl ?_|refine kA hrt ?_|refine kD hrt ?_|refine kA hbr ?_|refine kD hbr ?_|(refine isE 89 ?_;refine kA (cloneV_slots l (by omega)) ?_)|(refine isD 89 ?_;refine kD (cloneV_slots l (by omega)) ?_)|refine kW cfg_ok ?_|refine kC ?_|refine bdA ?_|refine bd2 ?_|refine bdR ?_|refine bdL ?_)<;>(conv=>whnf))|(refine And.intro ?_ ?_;rotate_left;(conv=>whnf);rotate_right))
       all_goals (try simp only [List.drop_zero,Nat.add_zero,Int.toNat_natCast])
       all_goals first|(simp;done)|(rw [hce];refine List.take_of_length_le ?_;rw [List.length_set];exact Nat.le_refl _)
     · have hbv : (decide ((l.length : Int) = 6) && bagOk l) = false:=by
         cases hbo : bagOk l with
         | false=>simp
         | true=>rw [Bool.and_true];exact decide_eq_false (by intro h;exact hb6 ⟨by omega,hbo⟩)
       rw [hbv] at hbr
       have hs : fillC c cell l = (c,103):=by unfold fillC;rw [if_neg (by rw [hR];simp),if_neg (by rw [hT];simp),if_pos hb6]
       rw [hs]
       refine Api.of_fin cfg_ok Tryz.func80 rfl (nt:=39) rfl rfl ?_
       conv=>whnf
       repeat' (first|exact trivial|((first|refine kL ?_|(refine ⟨fun hb=>?_,fun hb=>?_⟩<;>(try simp only [nrm] at hb)<;>(try (first|(exfalso;omega)|contradiction|exact kB hb)))|(refine isE 106 ?_;refine kE (copied_ev c hf) [(390001,150001),(390003,150003),(390005,150005)] rfl ?_)|(refine isD 106 ?_;refine kF (copied_ev c hf) [(390001,150001),(390003,150003),(390005,150005)] rfl ?_)|refine kE hfd [(1,150005)] rfl ?_|refine kF hfd [(1,150005)] rfl ?_|refine kA hrt ?_|refine kD hrt ?_|refine kA hbr ?_|refine kD hbr ?_|refine kW cfg_ok ?_|refine kC ?_|refine bdA ?_|refine bd2 ?_|refine bdR ?_|refine bdL ?_)<;>(conv=>whnf))|(refine And.intro ?_ ?_;rotate_left;(conv=>whnf);rotate_right))
       all_goals simp
def dropC (c : Chunk) (cell : Int) (s : Slot) : Chunk × Int:=
 if rightB c = false then (c,101) else if ¬ (0 ≤ cell ∧ cell < 64) then (c,102) else if someB s = false then (c,111)
 else if 32 ≤ c.heaps.length then (c,104) else ({ c with heaps:=c.heaps ++ [⟨cell,s⟩] },0)
theorem drop_api (c : Chunk) (cell : Int) (s : Slot) (hc : OkC c) (hf : FitC c) (hs : okSlot s) : Api Tryz.prog 77 [chunkV c,i64 cell,.agg [.lit (.int .u8 s.item),.lit (.int .i64 s.n)]] (.tup [chunkV (dropC c cell s).1,i64 (dropC c cell s).2]):=by
 have hrt:=cright_api c hc
 have hbx:=hf.heaps
 have hsm:=some_api s hs
 cases hR : rightB c with
 | false =>
   rw [hR] at hrt
   have hr : dropC c cell s = (c,101):=by unfold dropC;rw [if_pos hR]
   rw [hr]
   refine Api.of_fin cfg_ok Tryz.func77 rfl (nt:=39) rfl rfl ?_
   conv=>whnf
   repeat' (first|exact trivial|((first|refine kL ?_|(refine ⟨fun hb=>?_,fun hb=>?_⟩<;>(try simp only [nrm] at hb)<;>(try (first|(exfalso;omega)|contradiction|exact kB hb)))|(refine isE 106 ?_;refine kE (copied_ev c hf) [(390001,150001),(390003,150003),(390005,150005)] rfl ?_)|(refine isD 106 ?_;refine kF (copied_ev c hf) [(390001,150001),(390003,150003),(390005,150005)] rfl ?_)|refine kA hrt ?_|refine kD hrt ?_|refine kW cfg_ok ?_|refine kC ?_|refine bdA ?_|refine bd2 ?_|refine bdR ?_|refine bdL ?_)<;>(conv=>whnf))|(refine And.intro ?_ ?_;rotate_left;(conv=>whnf);rotate_right))
   all_goals simp
 | true =>
   rw [hR] at hrt
   by_cases hin : 0 ≤ cell ∧ cell < 64
   · cases hS : someB s with
     | false =>
       rw [hS] at hsm
       have hr : dropC c cell s = (c,111):=by unfold dropC;rw [if_neg (by rw [hR];simp),if_neg (by omega),if_pos hS]
       rw [hr]
       refine Api.of_fin cfg_ok Tryz.func77 rfl (nt:=39) rfl rfl ?_
       conv=>whnf
       repeat' (first|exact trivial|((first|refine kL ?_|(refine ⟨fun hb=>?_,fun hb=>?_⟩<;>(try simp only [nrm] at hb)<;>(try (first|(exfalso;omega)|contradiction|exact kB hb)))|(refine isE 106 ?_;refine kE (copied_ev c hf) [(390001,150001),(390003,150003),(390005,150005)] rfl ?_)|(refine isD 106 ?_;refine kF (copied_ev c hf) [(390001,150001),(390003,150003),(390005,150005)] rfl ?_)|refine kA hrt ?_|refine kD hrt ?_|(refine isE 50 ?_;refine kA (inside_api _) ?_)|(refine isD 50 ?_;refine kD (inside_api _) ?_)|refine kA hsm ?_|refine kD hsm ?_|refine kW cfg_ok ?_|refine kC ?_|refine bdA ?_|refine bd2 ?_|refine bdR ?_|refine bdL ?_)<;>(conv=>whnf))|(refine And.intro ?_ ?_;rotate_left;(conv=>whnf);rotate_right))
       all_goals simp
     | true =>
       rw [hS] at hsm
       by_cases hg : 32 ≤ c.heaps.length
       · have hr : dropC c cell s = (c,104):=by unfold dropC;rw [if_neg (by rw [hR];simp),if_neg (by omega),if_neg (by rw [hS];simp),if_pos hg]
         rw [hr]
         refine Api.of_fin cfg_ok Tryz.func77 rfl (nt:=39) rfl rfl ?_
         conv=>whnf
         repeat' (first|exact trivial|((first|refine kL ?_|(refine ⟨fun hb=>?_,fun hb=>?_⟩<;>(try simp only [nrm] at hb)<;>(try (first|(exfalso;omega)|contradiction|exact kB hb)))|(refine isE 106 ?_;refine kE (copied_ev c hf) [(390001,150001),(390003,150003),(390005,150005)] rfl ?_)|(refine isD 106 ?_;refine kF (copied_ev c hf) [(390001,150001),(390003,150003),(390005,150005)] rfl ?_)|refine kA hrt ?_|refine kD hrt ?_|(refine isE 50 ?_;refine kA (inside_api _) ?_)|(refine isD 50 ?_;refine kD (inside_api _) ?_)|refine kA hsm ?_|refine kD hsm ?_|refine kW cfg_ok ?_|refine kC ?_|refine bdA ?_|refine bd2 ?_|refine bdR ?_|refine bdL ?_)<;>(conv=>whnf))|(refine And.intro ?_ ?_;rotate_left;(conv=>whnf);rotate_right))
         all_goals simp
       · have hr : dropC c cell s = ({ c with heaps:=c.heaps ++ [⟨cell,s⟩] },0):=by unfold dropC;rw [if_neg (by rw [hR];simp),if_neg (by omega),if_neg (by rw [hS];simp),if_neg hg]
         rw [hr]
         refine Api.of_fin cfg_ok Tryz.func77 rfl (nt:=39) rfl rfl ?_
         conv=>whnf
         repeat' (first|exact trivial|((first|refine kL ?_|(refine ⟨fun hb=>?_,fun hb=>?_⟩<;>(try simp only [nrm] at hb)<;>(try (first|(exfalso;omega)|contradiction|exact kB hb)))|(refine isE 106 ?_;refine kE (copied_ev c hf) [(390001,150001),(390003,150003),(390005,150005)] rfl ?_)|(refine isD 106 ?_;refine kF (copied_ev c hf) [(390001,150001),(390003,150003),(390005,150005)] rfl ?_)|refine kA hrt ?_|refine kD hrt ?_|(refine isE 50 ?_;refine kA (inside_api _) ?_)|(refine isD 50 ?_;refine kD (inside_api _) ?_)|refine kA hsm ?_|refine kD hsm ?_|refine kW cfg_ok ?_|refine kC ?_|refine bdA ?_|refine bd2 ?_|refine bdR ?_|refine bdL ?_)<;>(conv=>whnf))|(refine And.intro ?_ ?_;rotate_left;(conv=>whnf);rotate_right))
         all_goals (try simp only [List.drop_zero,Nat.add_zero,List.take_length])
         all_goals first|(simp;done)|(refine List.take_of_length_le ?_;simp;done)
   · have hr : dropC c cell s = (c,102):=by unfold dropC;rw [if_neg (by rw [hR];simp),if_pos hin]
     rw [hr]
     refine Api.of_fin cfg_ok Tryz.func77 rfl (nt:=39) rfl rfl ?_
     conv=>whnf
     repeat' (first|exact trivial|((first|refine kL ?_|(refine ⟨fun hb=>?_,fun hb=>?_⟩<;>(try simp only [nrm] at hb)<;>(try (first|(exfalso;omega)|contradiction|exact kB hb)))|(refine isE 106 ?_;refine kE (copied_ev c hf) [(390001,150001),(390003,150003),(390005,150005)] rfl ?_)|(refine isD 106 ?_;refine kF (copied_ev c hf) [(390001,150001),(390003,150003),(390005,150005)] rfl ?_)|refine kA hrt ?_|refine kD hrt ?_|(refine isE 50 ?_;refine kA (inside_api _) ?_)|(refine isD 50 ?_;refine kD (inside_api _) ?_)|refine kW cfg_ok ?_|refine kC ?_|refine bdA ?_|refine bd2 ?_|refine bdR ?_|refine bdL ?_)<;>(conv=>whnf))|(refine And.intro ?_ ?_;rotate_left;(conv=>whnf);rotate_right))
     all_goals simp
open Go Go.RowKit Eng
def getB : List Box → Int → Option (List Slot)
 | [],_=>none
 | b :: r,t=>if b.cell = t then some b.bag else getB r t
theorem getB_none {l : List Box} {t : Int} : getB l t = none ↔ ∀ b ∈ l,b.cell ≠ t:=by
 induction l with
 | nil=>simp [getB]
 | cons b r ih =>
   simp only [getB,List.mem_cons,forall_eq_or_imp]
   split
   · rename_i h;simp [h]
   · rename_i h;rw [ih];exact ⟨fun h2=>⟨h,h2⟩,fun h2=>h2.2⟩
theorem getB_mem {l : List Box} {t : Int} {s : List Slot} (h : getB l t = some s) : ∃ b ∈ l,b.cell = t ∧ b.bag = s:=by
 induction l with
 | nil=>simp [getB] at h
 | cons b r ih =>
   simp only [getB] at h
   split at h
   · rename_i hb;exact ⟨b,by simp,hb,by simpa using h⟩
   · obtain ⟨b',h1,h2⟩:=ih h;exact ⟨b',by simp [h1],h2⟩
theorem getB_of_mem {l : List Box} (h : rises l) {b : Box} (hb : b ∈ l) : getB l b.cell = some b.bag:=by
 induction l with
 | nil=>simp at hb
 | cons a r ih =>
   simp only [getB]
   rcases List.mem_cons.1 hb with rfl|hb
   · simp
   · have:=h.1 b hb
     rw [if_neg (by omega)];exact ih h.2 hb
theorem there_get {l : List Box} (h : rises l) (t : Int) : thereB l t = true → getB l t = some (elt .box l (lb t l)).bag:=by
 intro ht
 obtain ⟨hlt,hce⟩:=thereB_lt ht
 have:=getB_of_mem h (elt_mem (t:=.box) hlt)
 rw [hce] at this;exact this
theorem there_none {l : List Box} (h : rises l) (t : Int) : thereB l t = false → getB l t = none:=by
 intro ht
 rw [getB_none]
 intro b hb he
 obtain ⟨i,hi,rfl⟩:=List.mem_iff_getElem.1 hb
 have hel : elt .box l i = l[i]:=by have:=elt_get .box l i hi;rw [List.getElem?_eq_getElem hi] at this;exact (Option.some.inj this).symm
 have hlb : lb t l = i:=lb_eq (by omega) (fun k hk=>by have:=rises_lt h hk hi;rw [hel,he] at this;exact this) (fun _=>by rw [hel,he];exact Int.le_refl _)
 have : thereB l t = true:=by simp only [thereB,hlb,hel,he,Bool.and_eq_true,decide_eq_true_eq,beq_self_eq_true,and_true];exact hi
 rw [this] at ht;cases ht
theorem there_iff {l : List Box} (h : rises l) (t : Int) : thereB l t = (getB l t).isSome:=by
 cases ht : thereB l t with
 | true=>rw [there_get h t ht];rfl
 | false=>rw [there_none h t ht];rfl
def delR (t : Int) : List Box → List Box
 | []=>[]
 | b :: r=>if b.cell < t then b :: delR t r else if b.cell = t then r else b :: r
theorem thereB_cons (b : Box) (r : List Box) (t : Int) : thereB (b :: r) t = if b.cell < t then thereB r t else decide (b.cell = t):=by
 unfold thereB
 simp only [lb]
 split
 · rw [elt_cons];simp
 · rw [elt_zero,Bool.eq_iff_iff];simp
theorem delB_eq (t : Int) : ∀ l : List Box,delB l t = delR t l
 | []=>rfl
 | b :: r=>by
   have ih:=delB_eq t r
   unfold delB at ih ⊢
   rw [thereB_cons]
   simp only [lb,delR]
   split
   · rename_i hb
     rw [← ih]
     split
     · simp
     · rfl
   · rename_i hb
     by_cases he : b.cell = t
     · simp [he]
     · simp [he]
theorem delR_mem {t : Int} : ∀ {l : List Box} {x : Box},x ∈ delR t l → x ∈ l
 | [],x,h=>by simp [delR] at h
 | b :: r,x,h=>by
   simp only [delR] at h
   split at h
   · rcases List.mem_cons.1 h with rfl|h
     · simp
     · simp [delR_mem h]
   · split at h
     · simp [h]
     · exact h
theorem rises_delR {t : Int} : ∀ {l : List Box},rises l → rises (delR t l)
 | [],_=>trivial
 | b :: r,h=>by
   simp only [delR]
   split
   · exact ⟨fun x hx=>h.1 x (delR_mem hx),rises_delR h.2⟩
   · split
     · exact h.2
     · exact h
theorem getB_delR {t u : Int} : ∀ {l : List Box},rises l → getB (delR t l) u = if u = t then none else getB l u
 | [],_=>by simp [delR,getB]
 | b :: r,h=>by
   have ih:=getB_delR (t:=t) (u:=u) h.2
   simp only [delR]
   split
   · rename_i hb
     simp only [getB,ih]
     split
     · rename_i hbu;rw [if_neg (by omega)]
     · rfl
   · split
     · rename_i hbe
       by_cases hu : u = t
       · rw [if_pos hu,getB_none];intro x hx;have:=h.1 x hx;omega
       · rw [if_neg hu];simp only [getB];rw [if_neg (by omega)]
     · rename_i hbt hbe
       by_cases hu : u = t
       · rw [if_pos hu,getB_none]
         intro x hx
         rcases List.mem_cons.1 hx with rfl|hx
         · omega
         · have:=h.1 x hx;omega
       · rw [if_neg hu]
def insR (x : Box) : List Box → List Box
 | []=>[x]
 | b :: r=>if b.cell < x.cell then b :: insR x r else x :: b :: r
theorem ins_eq (x : Box) : ∀ l : List Box,l.take (lb x.cell l) ++ x :: l.drop (lb x.cell l) = insR x l
 | []=>rfl
 | b :: r=>by
   simp only [lb,insR]
   split
   · rw [← ins_eq x r];rfl
   · rfl
theorem lb_delR (t : Int) : ∀ l : List Box,rises l → lb t (delR t l) = lb t l
 | [],_=>rfl
 | b :: r,h=>by
   simp only [delR]
   split
   · rename_i hb;simp only [lb,if_pos hb];rw [lb_delR t r h.2]
   · rename_i hb
     split
     · rename_i he
       simp only [lb,if_neg hb]
       cases r with
       | nil=>rfl
       | cons a r=>simp only [lb];have:=h.1 a (by simp);rw [if_neg (by omega)]
     · rfl
theorem insR_mem {x : Box} : ∀ {l : List Box} {y : Box},y ∈ insR x l → y = x ∨ y ∈ l
 | [],y,h=>by simp [insR] at h;exact .inl h
 | b :: r,y,h=>by
   simp only [insR] at h
   split at h
   · rcases List.mem_cons.1 h with rfl|h
     · simp
     · rcases insR_mem h with h|h
       · exact .inl h
       · simp [h]
   · rcases List.mem_cons.1 h with rfl|h
     · exact .inl rfl
     · exact .inr h
theorem rises_insR {x : Box} : ∀ {l : List Box},rises l → getB l x.cell = none → rises (insR x l)
 | [],_,_=>⟨by simp,trivial⟩
 | b :: r,h,hn=>by
   have hn':=getB_none.1 hn
   simp only [insR]
   split
   · rename_i hb
     refine ⟨fun y hy=>?_,rises_insR h.2 (getB_none.2 fun y hy=>hn' y (by simp [hy]))⟩
     rcases insR_mem hy with rfl|hy
     · exact hb
     · exact h.1 y hy
   · rename_i hb
     have h0:=hn' b (by simp)
     refine ⟨fun y hy=>?_,h⟩
     rcases List.mem_cons.1 hy with rfl|hy
     · omega
     · have:=h.1 y hy;omega
theorem getB_insR {x : Box} {u : Int} : ∀ {l : List Box},getB l x.cell = none → getB (insR x l) u = if u = x.cell then some x.bag else getB l u
 | [],_=>by simp only [insR,getB];by_cases h : u = x.cell<;>simp [h];exact fun e=>absurd e.symm h
 | b :: r,hn=>by
   have hn':=getB_none.1 hn
   have h0:=hn' b (by simp)
   have ih:=getB_insR (x:=x) (u:=u) (l:=r) (getB_none.2 fun y hy=>hn' y (by simp [hy]))
   simp only [insR]
   split
   · simp only [getB,ih]
     by_cases hbu : b.cell = u
     · rw [if_pos hbu,if_pos hbu,if_neg (by omega)]
     · rw [if_neg hbu,if_neg hbu]
   · simp only [getB]
     by_cases hu : u = x.cell
     · rw [if_pos hu.symm,if_pos hu]
     · rw [if_neg (fun e=>hu e.symm),if_neg hu]
theorem putB_eq {l : List Box} (h : rises l) (t i : Int) : putB l t i = if i = 9 then insR ⟨t,newBag⟩ (delR t l) else delR t l:=by
 unfold putB
 rw [delB_eq]
 have e:=ins_eq ⟨t,newBag⟩ (delR t l)
 simp only at e
 rw [lb_delR t l h] at e
 rw [e]
theorem rises_putB {l : List Box} (h : rises l) (t i : Int) : rises (putB l t i):=by
 rw [putB_eq h]
 split
 · exact rises_insR (rises_delR h) (by rw [getB_delR h];simp)
 · exact rises_delR h
theorem getB_putB {l : List Box} (h : rises l) (t i u : Int) : getB (putB l t i) u = if u = t then (if i = 9 then some newBag else none) else getB l u:=by
 rw [putB_eq h]
 split
 · rw [getB_insR (by rw [getB_delR h];simp),getB_delR h]
   split<;>simp_all
 · rw [getB_delR h]
theorem putB_mem {l : List Box} (h : rises l) {t i : Int} {x : Box} (hx : x ∈ putB l t i) : x ∈ l ∨ (i = 9 ∧ x = ⟨t,newBag⟩):=by
 rw [putB_eq h] at hx
 split at hx
 · rename_i h9
   rcases insR_mem hx with rfl|hx
   · exact .inr ⟨h9,rfl⟩
   · exact .inl (delR_mem hx)
 · exact .inl (delR_mem hx)
theorem upd_eq (x : Box) : ∀ (l : List Box),rises l → thereB l x.cell = true → l.set (lb x.cell l) x = insR x (delR x.cell l)
 | [],_,h=>by simp [thereB] at h
 | b :: r,hr,h=>by
   rw [thereB_cons] at h
   simp only [lb,delR]
   split
   · rename_i hb
     rw [if_pos hb] at h
     simp only [List.set_cons_succ,insR,if_pos hb]
     rw [upd_eq x r hr.2 h]
   · rename_i hb
     rw [if_neg hb] at h
     have he : b.cell = x.cell:=by simpa using h
     rw [if_pos he,List.set_cons_zero]
     cases r with
     | nil=>rfl
     | cons a r=>have:=hr.1 a (by simp);simp only [insR];rw [if_neg (by omega)]
def updB (l : List Box) (t : Int) (s : List Slot) : List Box:=l.set (lb t l) ⟨t,s⟩
theorem rises_updB {l : List Box} (h : rises l) {t : Int} {s : List Slot} (ht : thereB l t = true) : rises (updB l t s):=by
 unfold updB
 rw [upd_eq ⟨t,s⟩ l h ht]
 exact rises_insR (rises_delR h) (by rw [getB_delR h];simp)
theorem getB_updB {l : List Box} (h : rises l) {t : Int} {s : List Slot} (ht : thereB l t = true) (u : Int) : getB (updB l t s) u = if u = t then some s else getB l u:=by
 unfold updB
 rw [upd_eq ⟨t,s⟩ l h ht,getB_insR (by rw [getB_delR h];simp),getB_delR h]
 split<;>simp_all
def bagR (s : List Slot) : Bool:=decide ((s.length : Int) = 6) && bagOk s
theorem bagR_new : bagR newBag = true:=by decide
structure Fits (l : List Int) (k : Nat) (bs : List Box) : Prop where
 items : ∀ i ∈ l,itemOk i = true
 up : rises bs
 bags : ∀ b ∈ bs,(k : Int) ≤ b.cell ∧ b.cell < k + l.length ∧ bagR b.bag = true
 chest : ∀ j < l.length,(l.getD j 0 = 9 ↔ (getB bs ((k : Int) + j)).isSome = true)
theorem fits_iff : ∀ (l : List Int) (k : Nat) (bs : List Box),rightGo l k bs = some [] ↔ Fits l k bs
 | [],k,bs=>by
   simp only [rightGo,Option.some.injEq]
   constructor
   · rintro rfl;exact ⟨by simp,trivial,by simp,by simp⟩
   · intro h
     cases bs with
     | nil=>rfl
     | cons b bs=>have:=h.bags b (by simp);simp only [List.length_nil] at this;omega
 | i :: r,k,bs=>by
   simp only [rightGo]
   by_cases hi : itemOk i = true
   · rw [if_pos hi]
     by_cases h9 : i = 9
     · rw [if_pos h9]
       cases bs with
       | nil =>
         simp only [reduceCtorEq,false_iff]
         intro h
         have:=(h.chest 0 (by simp)).1 (by simpa using h9)
         simp [getB] at this
       | cons b bs =>
         simp only
         by_cases hb : boxAt b k = true
         · rw [if_pos hb,fits_iff r (k + 1) bs]
           simp only [boxAt,Bool.and_eq_true,beq_iff_eq] at hb
           have hbg : bagR b.bag = true:=by unfold bagR;rw [hb.2.1,hb.2.2];rfl
           constructor
           · intro h
             refine ⟨fun x hx=>?_,⟨fun x hx=>?_,h.up⟩,fun x hx=>?_,fun j hj=>?_⟩
             · rcases List.mem_cons.1 hx with rfl|hx
               · exact hi
               · exact h.items x hx
             · have:=h.bags x hx;omega
             · rcases List.mem_cons.1 hx with rfl|hx
               · refine ⟨by omega,by simp only [List.length_cons];omega,hbg⟩
               · have:=h.bags x hx;refine ⟨by omega,by simp only [List.length_cons];omega,this.2.2⟩
             · cases j with
               | zero=>simp only [getB];rw [if_pos (by omega)];simp [h9]
               | succ j =>
                 have:=h.chest j (by simpa using hj)
                 simp only [getB];rw [if_neg (by omega)]
                 rw [List.getD_cons_succ,this]
                 rw [show ((k + 1 : Nat) : Int) + j = k + ((j + 1 : Nat) : Int) by omega]
           · intro h
             refine ⟨fun x hx=>h.items x (by simp [hx]),h.up.2,fun x hx=>?_,fun j hj=>?_⟩
             · have h1:=h.bags x (by simp [hx])
               have h2:=h.up.1 x hx
               simp only [List.length_cons] at h1
               refine ⟨by omega,by omega,h1.2.2⟩
             · have:=h.chest (j + 1) (by simpa using hj)
               simp only [getB] at this;rw [if_neg (by omega)] at this
               rw [List.getD_cons_succ] at this
               rw [this]
               rw [show ((k + 1 : Nat) : Int) + j = k + ((j + 1 : Nat) : Int) by omega]
         · rw [if_neg hb]
           simp only [reduceCtorEq,false_iff]
           intro h
           refine hb ?_
           have h0:=(h.chest 0 (by simp)).1 (by simpa using h9)
           have hbb:=h.bags b (by simp)
           have hk : b.cell = k:=by
             rw [Option.isSome_iff_exists] at h0
             obtain ⟨s,hs⟩:=h0
             obtain ⟨x,hx,hxe,_⟩:=getB_mem hs
             rcases List.mem_cons.1 hx with rfl|hx
             · simpa using hxe
             · have:=h.up.1 x hx;simp only [Int.natCast_zero,Int.add_zero] at hxe;omega
           have h2:=hbb.2.2
           simp only [bagR,Bool.and_eq_true] at h2
           simp only [boxAt,Bool.and_eq_true,beq_iff_eq]
           exact ⟨hk,h2.1,h2.2⟩
     · rw [if_neg h9,fits_iff r (k + 1) bs]
       constructor
       · intro h
         refine ⟨fun x hx=>?_,h.up,fun x hx=>?_,fun j hj=>?_⟩
         · rcases List.mem_cons.1 hx with rfl|hx
           · exact hi
           · exact h.items x hx
         · have:=h.bags x hx;refine ⟨by omega,by simp only [List.length_cons];omega,this.2.2⟩
         · cases j with
           | zero =>
             have : getB bs ((k : Int) + ((0 : Nat) : Int)) = none:=getB_none.2 fun x hx=>by have:=h.bags x hx;omega
             rw [this];simp [h9]
           | succ j =>
             have:=h.chest j (by simpa using hj)
             rw [List.getD_cons_succ,this]
             rw [show ((k + 1 : Nat) : Int) + j = k + ((j + 1 : Nat) : Int) by omega]
       · intro h
         have h0 : getB bs (k : Int) = none:=by
           have:=h.chest 0 (by simp)
           simp only [List.getD_cons_zero,Int.natCast_zero,Int.add_zero,h9,false_iff] at this
           simpa using this
         refine ⟨fun x hx=>h.items x (by simp [hx]),h.up,fun x hx=>?_,fun j hj=>?_⟩
         · have h1:=h.bags x hx
           have h2:=getB_none.1 h0 x hx
           simp only [List.length_cons] at h1
           refine ⟨by omega,by omega,h1.2.2⟩
         · have:=h.chest (j + 1) (by simpa using hj)
           rw [List.getD_cons_succ] at this
           rw [this]
           rw [show ((k + 1 : Nat) : Int) + j = k + ((j + 1 : Nat) : Int) by omega]
   · rw [if_neg hi]
     simp only [reduceCtorEq,false_iff]
     intro h
     exact hi (h.items i (by simp))
theorem right_iff (c : Chunk) : rightB c = true ↔ headB c = true ∧ Fits c.cells 0 c.boxes ∧ c.heaps.any badHeap = false:=by
 constructor
 · intro h
   obtain ⟨h1,h2,h3⟩:=rightC_of h
   exact ⟨h1,(fits_iff _ _ _).1 h2,h3⟩
 · rintro ⟨h1,h2,h3⟩
   unfold rightB
   rw [h1,(fits_iff _ _ _).2 h2,h3];rfl
theorem rises_count : ∀ {l : List Box} (lo : Int) {hi : Int},rises l → (∀ b ∈ l,lo ≤ b.cell ∧ b.cell < hi) → lo ≤ hi → (l.length : Int) ≤ hi - lo
 | [],lo,hi,_,_,h=>by simp;omega
 | b :: r,lo,hi,h,hb,hlh=>by
   have h0:=hb b (by simp)
   have:=rises_count (l:=r) (b.cell + 1) (hi:=hi) h.2 (fun x hx=>by have:=h.1 x hx;have:=hb x (by simp [hx]);omega) (by omega)
   simp only [List.length_cons];omega
theorem right_len {c : Chunk} (h : rightB c = true) : c.cells.length = 64:=(rightC_of h).len
theorem right_fits {c : Chunk} (h : rightB c = true) : Fits c.cells 0 c.boxes:=((right_iff c).1 h).2.1
theorem right_bag {c : Chunk} (h : rightB c = true) {b : Box} (hb : b ∈ c.boxes) : b.bag.length = 6 ∧ bagOk b.bag = true:=by
 have:=((right_fits h).bags b hb).2.2
 simp only [bagR,Bool.and_eq_true,decide_eq_true_eq] at this
 exact ⟨by omega,this.2⟩
theorem right_heaps {c : Chunk} (h : rightB c = true) : c.heaps.length ≤ 32:=by
 have:=((right_iff c).1 h).1
 simp only [headB,Bool.and_eq_true,decide_eq_true_eq] at this;omega
theorem right_boxes {c : Chunk} (h : rightB c = true) : c.boxes.length ≤ 64:=by
 have hf:=right_fits h
 have:=rises_count (l:=c.boxes) 0 (hi:=64) hf.up (fun b hb=>by have:=hf.bags b hb;rw [right_len h] at this;omega) (by omega)
 omega
theorem fitC_right {c : Chunk} (h : rightB c = true) : FitC c:=
 ⟨by rw [right_len h];omega,by have:=right_heaps h;omega,by have:=right_boxes h;omega,fun b hb=>by rw [(right_bag h hb).1];omega⟩
def putC (c : Chunk) (t i : Int) : Chunk:={ c with cells:=c.cells.set t.toNat i,boxes:=putB c.boxes t i }
theorem right_put {c : Chunk} (h : rightB c = true) {t i : Int} (ht : 0 ≤ t) (ht2 : t < 64) (hi : itemOk i = true) : rightB (putC c t i) = true:=by
 obtain ⟨h1,h2,h3⟩:=(right_iff c).1 h
 have hl:=right_len h
 rw [right_iff]
 refine ⟨?_,⟨fun x hx=>?_,rises_putB h2.up t i,fun b hb=>?_,fun j hj=>?_⟩,h3⟩
 · rw [← h1];unfold headB;rw [show (putC c t i).cells.length = c.cells.length by simp [putC]];rfl
 · rcases List.mem_or_eq_of_mem_set hx with hx|rfl
   · exact h2.items x hx
   · exact hi
 · simp only [putC,List.length_set]
   rcases putB_mem h2.up hb with hb|⟨_,rfl⟩
   · exact h2.bags b hb
   · refine ⟨by simpa using ht,by simp only [hl];simpa using ht2,bagR_new⟩
 · simp only [putC,List.length_set] at hj ⊢
   rw [getB_putB h2.up]
   have hc:=h2.chest j hj
   by_cases hjt : j = t.toNat
   · subst hjt
     rw [if_pos (by simp;omega)]
     simp only [List.getD_eq_getElem?_getD,List.getElem?_set_self hj,Option.getD_some]
     split<;>simp_all
   · rw [if_neg (by simp;omega)]
     simp only [List.getD_eq_getElem?_getD,List.getElem?_set_ne (fun e=>hjt e.symm)] at hc ⊢
     exact hc
def fullAt (c : Chunk) (t : Int) : Bool:=match getB c.boxes t with
 | some s=>fullB s
 | none=>false
theorem setC_right {c : Chunk} (h : rightB c = true) {t i : Int} (ht : 0 ≤ t) (ht2 : t < 64) :
   setC c t i = if itemOk i = false then (c,100) else if fullAt c t = true then (c,104) else (putC c t i,0):=by
 have hu:=(right_fits h).up
 unfold setC
 rw [if_neg (by rw [h];simp),if_neg (by omega)]
 have e1 : (¬ (i = 0) ∧ blockB i = false) ↔ itemOk i = false:=by simp [itemOk]
 by_cases hi : itemOk i = false
 · rw [if_pos (e1.2 hi),if_pos hi]
 · rw [if_neg (fun x=>hi (e1.1 x)),if_neg hi]
   have e2 : (thereB c.boxes t = true ∧ fullB (elt .box c.boxes (lb t c.boxes)).bag = true) ↔ fullAt c t = true:=by
     unfold fullAt
     cases hth : thereB c.boxes t with
     | true=>rw [there_get hu t hth];simp
     | false=>rw [there_none hu t hth];simp
   by_cases hf : fullAt c t = true
   · rw [if_pos (e2.2 hf),if_pos hf]
   · rw [if_neg (fun x=>hf (e2.1 x)),if_neg hf];rfl
theorem right_setC {c : Chunk} (h : rightB c = true) {t i : Int} (ht : 0 ≤ t) (ht2 : t < 64) : rightB (setC c t i).1 = true:=by
 rw [setC_right h ht ht2]
 split
 · exact h
 · rename_i hi
   split
   · exact h
   · exact right_put h ht ht2 (by simpa using hi)
theorem boxC_get {c : Chunk} (h : rightB c = true) (t : Int) : boxC c t = ((getB c.boxes t).getD [],(getB c.boxes t).isSome):=by
 have hu:=(right_fits h).up
 unfold boxC
 rw [if_neg (by rw [h];simp)]
 cases hth : thereB c.boxes t with
 | true=>rw [there_get hu t hth];rfl
 | false=>rw [there_none hu t hth];rfl
def updC (c : Chunk) (t : Int) (l : List Slot) : Chunk:={ c with boxes:=updB c.boxes t l }
theorem updB_mem {l : List Box} {t : Int} {s : List Slot} {x : Box} (hx : x ∈ updB l t s) : x ∈ l ∨ x = ⟨t,s⟩:=by
 rcases List.mem_or_eq_of_mem_set hx with h|h
 · exact .inl h
 · exact .inr h
theorem right_upd {c : Chunk} (h : rightB c = true) {t : Int} {l : List Slot} (ht : thereB c.boxes t = true) (hl : bagR l = true) : rightB (updC c t l) = true:=by
 obtain ⟨h1,h2,h3⟩:=(right_iff c).1 h
 rw [right_iff]
 refine ⟨h1,⟨h2.items,rises_updB h2.up ht,fun b hb=>?_,fun j hj=>?_⟩,h3⟩
 · rcases updB_mem hb with hb|rfl
   · exact h2.bags b hb
   · have hg:=there_get h2.up t ht
     obtain ⟨x,hx,hxe,_⟩:=getB_mem hg
     have:=h2.bags x hx
     exact ⟨by simp only;omega,by simp only [updC];omega,hl⟩
 · show c.cells.getD j 0 = 9 ↔ (getB (updB c.boxes t l) _).isSome = true
   rw [getB_updB h2.up ht,h2.chest j hj]
   split
   · rename_i he;rw [he,there_get h2.up t ht];simp
   · rfl
theorem fillC_right {c : Chunk} (h : rightB c = true) (t : Int) (l : List Slot) :
   fillC c t l = if (getB c.boxes t).isSome = false then (c,102) else if bagR l = false then (c,103) else (updC c t l,0):=by
 unfold fillC
 rw [if_neg (by rw [h];simp),there_iff (right_fits h).up]
 split
 · rfl
 · have e : (¬ (l.length = 6 ∧ bagOk l = true)) ↔ bagR l = false:=by
     unfold bagR
     cases bagOk l<;>simp<;>omega
   by_cases hb : bagR l = false
   · rw [if_pos (e.2 hb),if_pos hb]
   · rw [if_neg (fun x=>hb (e.1 x)),if_neg hb];rfl
open Go Go.RowKit Eng
theorem lift1_miss (h : Heap) (cell : Int) (out : List (El .slot)) (n : Nat) (hn : n = out.length) (hne : ¬ h.cell = cell) : Ev1 Tryz.prog 119 [.agg [.lit (.int .i64 h.cell),.lit (.int .u8 h.slot.item),.lit (.int .i64 h.slot.n)],.ptr 0 0,.ptr 2 0] [(0,.box [i64 cell]),(2,.box [.own .slot 1 0 n none]),(1,.row .slot out)] (bol false) [(0,.box [i64 cell]),(2,.box [.own .slot 1 0 n none]),(1,.row .slot out)]:=by
 subst hn
 refine Ev1.of_fin cfg_ok Tryz.func119 rfl (nt:=15) rfl rfl rfl ?_
 conv=>whnf
 repeat' (first|exact trivial|((first|refine kL ?_|(refine ⟨fun hb=>?_,fun hb=>?_⟩<;>(try simp only [nrm] at hb)<;>(try (first|(exfalso;omega)|contradiction|exact kB hb)))|refine kW cfg_ok ?_|refine kC ?_|refine bdA ?_|refine bd2 ?_|refine bdR ?_|refine bdL ?_)<;>(conv=>whnf))|(refine And.intro ?_ ?_;rotate_left;(conv=>whnf);rotate_right))
 all_goals first|(refine congrArg Value.bool ?_;simp [hne];done)|exact List.take_length|exact Nat.le_refl _|(simp;done)|(refine List.take_of_length_le ?_;simp;done)|rfl
theorem lift1_miss0 (h : Heap) (cell : Int) (hne : ¬ h.cell = cell) : Ev1 Tryz.prog 119 [.agg [.lit (.int .i64 h.cell),.lit (.int .u8 h.slot.item),.lit (.int .i64 h.slot.n)],.ptr 0 0,.ptr 2 0] [(0,.box [i64 cell]),(2,.box [.lit (.slice none 0 0)])] (bol false) [(0,.box [i64 cell]),(2,.box [.lit (.slice none 0 0)])]:=by
 refine Ev1.of_fin cfg_ok Tryz.func119 rfl (nt:=15) rfl rfl rfl ?_
 conv=>whnf
 repeat' (first|exact trivial|((first|refine kL ?_|(refine ⟨fun hb=>?_,fun hb=>?_⟩<;>(try simp only [nrm] at hb)<;>(try (first|(exfalso;omega)|contradiction|exact kB hb)))|refine kW cfg_ok ?_|refine kC ?_|refine bdA ?_|refine bd2 ?_|refine bdR ?_|refine bdL ?_)<;>(conv=>whnf))|(refine And.intro ?_ ?_;rotate_left;(conv=>whnf);rotate_right))
 all_goals first|(refine congrArg Value.bool ?_;simp [hne];done)|exact List.take_length|exact Nat.le_refl _|(simp;done)|(refine List.take_of_length_le ?_;simp;done)|rfl
theorem lift1_hit (h : Heap) (cell : Int) (out : List (El .slot)) (n : Nat) (hn : n = out.length) (ho : (out.length + 1) * 16 ≤ 140737488355328) (hne : h.cell = cell) : Ev1 Tryz.prog 119 [.agg [.lit (.int .i64 h.cell),.lit (.int .u8 h.slot.item),.lit (.int .i64 h.slot.n)],.ptr 0 0,.ptr 2 0] [(0,.box [i64 cell]),(2,.box [.own .slot 1 0 n none]),(1,.row .slot out)] (bol true) [(0,.box [i64 cell]),(2,.box [.own .slot 390001 0 (out.length + 1) none]),(390001,.row .slot (out ++ [h.slot]))]:=by
 subst hn
 refine Ev1.of_fin cfg_ok Tryz.func119 rfl (nt:=15) rfl rfl rfl ?_
 conv=>whnf
 repeat' (first|exact trivial|((first|refine kL ?_|(refine ⟨fun hb=>?_,fun hb=>?_⟩<;>(try simp only [nrm] at hb)<;>(try (first|(exfalso;omega)|contradiction|exact kB hb)))|refine kW cfg_ok ?_|refine kC ?_|refine bdA ?_|refine bd2 ?_|refine bdR ?_|refine bdL ?_)<;>(conv=>whnf))|(refine And.intro ?_ ?_;rotate_left;(conv=>whnf);rotate_right))
 all_goals first|(refine congrArg Value.bool ?_;simp [hne];done)|exact List.take_length|exact Nat.le_refl _|(simp;done)|(refine List.take_of_length_le ?_;simp;done)|rfl|(rw [List.take_length];refine List.take_of_length_le ?_;simp;done)
theorem lift1_hit0 (h : Heap) (cell : Int) (hne : h.cell = cell) : Ev1 Tryz.prog 119 [.agg [.lit (.int .i64 h.cell),.lit (.int .u8 h.slot.item),.lit (.int .i64 h.slot.n)],.ptr 0 0,.ptr 2 0] [(0,.box [i64 cell]),(2,.box [.lit (.slice none 0 0)])] (bol true) [(0,.box [i64 cell]),(2,.box [.own .slot 390001 0 1 none]),(390001,.row .slot [h.slot])]:=by
 refine Ev1.of_fin cfg_ok Tryz.func119 rfl (nt:=15) rfl rfl rfl ?_
 conv=>whnf
 repeat' (first|exact trivial|((first|refine kL ?_|(refine ⟨fun hb=>?_,fun hb=>?_⟩<;>(try simp only [nrm] at hb)<;>(try (first|(exfalso;omega)|contradiction|exact kB hb)))|refine kW cfg_ok ?_|refine kC ?_|refine bdA ?_|refine bd2 ?_|refine bdR ?_|refine bdL ?_)<;>(conv=>whnf))|(refine And.intro ?_ ?_;rotate_left;(conv=>whnf);rotate_right))
 all_goals first|(refine congrArg Value.bool ?_;simp [hne];done)|exact List.take_length|exact Nat.le_refl _|(simp;done)|(refine List.take_of_length_le ?_;simp;done)|rfl|(rw [List.take_length];refine List.take_of_length_le ?_;simp)
def hit (cell : Int) (h : Heap) : Bool:=h.cell == cell
def miss (cell : Int) (h : Heap) : Bool:=!(h.cell == cell)
def keptH (cell : Int) (l : List Heap) : List Heap:=l.filter (miss cell)
def hitsH (cell : Int) (l : List Heap) : List Slot:=(l.filter (hit cell)).map (·.slot)
theorem idx_none (l : List (El .heap)) (cell : Int) (hl : l.length ≤ 9000000000000000000) (hm : ∀ k < l.length,¬ (elt .heap l k).cell = cell) : Ev1 Tryz.prog 99 [.own .heap 1 0 l.length none,.clo (.func 119) [] [.ptr 0 0,.ptr 2 0]] [(0,.box [i64 cell]),(2,.box [.lit (.slice none 0 0)]),(1,.row .heap l)] (i64 (-1)) [(0,.box [i64 cell]),(2,.box [.lit (.slice none 0 0)]),(1,.row .heap l)]:=by
 refine Ev1.of_fin cfg_ok Tryz.func99 rfl (nt:=17) rfl rfl rfl ?_
 conv=>whnf
 refine Runs.loopS cfg_ok (σ:=Nat) [0,1,7,8] (fun k=>[.own .heap 1 0 l.length none,.clo (.func 119) [] [.ptr 0 0,.ptr 2 0],i64 l.length,i64 k]) (fun _=>[(0,.box [i64 cell]),(2,.box [.lit (.slice none 0 0)]),(1,.row .heap l)]) (fun k=>k ≤ l.length) (fun k=>l.length - k) 0 (by omega) ?_ ?_
 · conv=>whnf
   repeat' (first|exact trivial|((first|refine kL ?_|(refine ⟨fun hb=>?_,fun hb=>?_⟩<;>(try simp only [nrm] at hb)<;>(try (first|(exfalso;omega)|contradiction|exact kB hb)))|refine kW cfg_ok ?_|refine kC ?_|refine bdA ?_|refine bd2 ?_|refine bdR ?_|refine bdL ?_)<;>(conv=>whnf))|(refine And.intro ?_ ?_;rotate_left;(conv=>whnf);rotate_right))
   all_goals exact List.take_length
 · intro k hk
   by_cases hlt : k < l.length
   · conv=>whnf
     repeat' (first|exact trivial|((first|refine kL ?_|(refine ⟨fun hb=>?_,fun hb=>?_⟩<;>(try simp only [nrm] at hb)<;>(try (first|(exfalso;omega)|contradiction|exact kB hb)))|(refine isE 119 ?_;refine kE (lift1_miss0 (elt .heap l k) cell (hm k hlt)) [(0,0),(2,2)] rfl ?_)|(refine isD 119 ?_;refine kF (lift1_miss0 (elt .heap l k) cell (hm k hlt)) [(0,0),(2,2)] rfl ?_)|refine kW cfg_ok ?_|refine kC ?_|refine bdA ?_|refine bd2 ?_|refine bdR ?_|refine bdL ?_)<;>(conv=>whnf))|(refine And.intro ?_ ?_;rotate_left;(conv=>whnf);rotate_right))
     refine .to (k + 1) hlt (by omega) ?_
     conv=>whnf
     repeat' (first|exact trivial|((first|refine kL ?_|(refine ⟨fun hb=>?_,fun hb=>?_⟩<;>(try simp only [nrm] at hb)<;>(try (first|(exfalso;omega)|contradiction|exact kB hb)))|refine kW cfg_ok ?_|refine kC ?_|refine bdA ?_|refine bd2 ?_|refine bdR ?_|refine bdL ?_)<;>(conv=>whnf))|(refine And.intro ?_ ?_;rotate_left;(conv=>whnf);rotate_right))
     all_goals exact List.take_length
   · obtain rfl : k = l.length:=by omega
     conv=>whnf
     repeat' (first|exact trivial|((first|refine kL ?_|(refine ⟨fun hb=>?_,fun hb=>?_⟩<;>(try simp only [nrm] at hb)<;>(try (first|(exfalso;omega)|contradiction|exact kB hb)))|refine kW cfg_ok ?_|refine kC ?_|refine bdA ?_|refine bd2 ?_|refine bdR ?_|refine bdL ?_)<;>(conv=>whnf))|(refine And.intro ?_ ?_;rotate_left;(conv=>whnf);rotate_right))
     all_goals exact List.take_length
theorem idx_some (l : List (El .heap)) (cell : Int) (i : Nat) (hl : l.length ≤ 9000000000000000000) (hi : i < l.length) (hm : ∀ k < i,¬ (elt .heap l k).cell = cell) (hh : (elt .heap l i).cell = cell) : Ev1 Tryz.prog 99 [.own .heap 1 0 l.length none,.clo (.func 119) [] [.ptr 0 0,.ptr 2 0]] [(0,.box [i64 cell]),(2,.box [.lit (.slice none 0 0)]),(1,.row .heap l)] (i64 i) [(0,.box [i64 cell]),(2,.box [.own .slot 390001 0 1 none]),(1,.row .heap l),(390001,.row .slot [(elt .heap l i).slot])]:=by
 refine Ev1.of_fin cfg_ok Tryz.func99 rfl (nt:=17) rfl rfl rfl ?_
 conv=>whnf
 refine Runs.loopS cfg_ok (σ:=Nat) [0,1,7,8] (fun k=>[.own .heap 1 0 l.length none,.clo (.func 119) [] [.ptr 0 0,.ptr 2 0],i64 l.length,i64 k]) (fun _=>[(0,.box [i64 cell]),(2,.box [.lit (.slice none 0 0)]),(1,.row .heap l)]) (fun k=>k ≤ i) (fun k=>l.length - k) 0 (by omega) ?_ ?_
 · conv=>whnf
   repeat' (first|exact trivial|((first|refine kL ?_|(refine ⟨fun hb=>?_,fun hb=>?_⟩<;>(try simp only [nrm] at hb)<;>(try (first|(exfalso;omega)|contradiction|exact kB hb)))|refine kW cfg_ok ?_|refine kC ?_|refine bdA ?_|refine bd2 ?_|refine bdR ?_|refine bdL ?_)<;>(conv=>whnf))|(refine And.intro ?_ ?_;rotate_left;(conv=>whnf);rotate_right))
   all_goals exact List.take_length
 · intro k hk
   by_cases hlt : k < i
   · conv=>whnf
     repeat' (first|exact trivial|((first|refine kL ?_|(refine ⟨fun hb=>?_,fun hb=>?_⟩<;>(try simp only [nrm] at hb)<;>(try (first|(exfalso;omega)|contradiction|exact kB hb)))|(refine isE 119 ?_;refine kE (lift1_miss0 (elt .heap l k) cell (hm k hlt)) [(0,0),(2,2)] rfl ?_)|(refine isD 119 ?_;refine kF (lift1_miss0 (elt .heap l k) cell (hm k hlt)) [(0,0),(2,2)] rfl ?_)|refine kW cfg_ok ?_|refine kC ?_|refine bdA ?_|refine bd2 ?_|refine bdR ?_|refine bdL ?_)<;>(conv=>whnf))|(refine And.intro ?_ ?_;rotate_left;(conv=>whnf);rotate_right))
     refine .to (k + 1) hlt (by omega) ?_
     conv=>whnf
     repeat' (first|exact trivial|((first|refine kL ?_|(refine ⟨fun hb=>?_,fun hb=>?_⟩<;>(try simp only [nrm] at hb)<;>(try (first|(exfalso;omega)|contradiction|exact kB hb)))|refine kW cfg_ok ?_|refine kC ?_|refine bdA ?_|refine bd2 ?_|refine bdR ?_|refine bdL ?_)<;>(conv=>whnf))|(refine And.intro ?_ ?_;rotate_left;(conv=>whnf);rotate_right))
     all_goals exact List.take_length
   · obtain rfl : k = i:=by omega
     conv=>whnf
     repeat' (first|exact trivial|((first|refine kL ?_|(refine ⟨fun hb=>?_,fun hb=>?_⟩<;>(try simp only [nrm] at hb)<;>(try (first|(exfalso;omega)|contradiction|exact kB hb)))|(refine isE 119 ?_;refine kE (lift1_hit0 (elt .heap l k) cell hh) [(0,0),(2,2),(390001,350001)] rfl ?_)|(refine isD 119 ?_;refine kF (lift1_hit0 (elt .heap l k) cell hh) [(0,0),(2,2),(390001,350001)] rfl ?_)|refine kW cfg_ok ?_|refine kC ?_|refine bdA ?_|refine bd2 ?_|refine bdR ?_|refine bdL ?_)<;>(conv=>whnf))|(refine And.intro ?_ ?_;rotate_left;(conv=>whnf);rotate_right))
     all_goals first|exact List.take_length|rfl
theorem keptH_next {cell : Int} {l : List Heap} {k : Nat} (h : k < l.length) : keptH cell (l.take (k + 1)) = keptH cell (l.take k) ++ (if (elt .heap l k).cell = cell then [] else [elt .heap l k]):=by
 have:=elt_get .heap l k h
 unfold keptH
 rw [List.take_add_one,this,List.filter_append]
 by_cases hc : (elt .heap l k).cell = cell
 · rw [if_pos hc];simp [miss,hc]
 · rw [if_neg hc];simp [miss,hc]
theorem hitsH_next {cell : Int} {l : List Heap} {k : Nat} (h : k < l.length) : hitsH cell (l.take (k + 1)) = hitsH cell (l.take k) ++ (if (elt .heap l k).cell = cell then [(elt .heap l k).slot] else []):=by
 have:=elt_get .heap l k h
 unfold hitsH
 rw [List.take_add_one,this,List.filter_append,List.map_append]
 by_cases hc : (elt .heap l k).cell = cell
 · rw [if_pos hc];simp [hit,hc]
 · rw [if_neg hc];simp [hit,hc]
theorem keptH_le {cell : Int} {l : List Heap} {k : Nat} (h : k ≤ l.length) : (keptH cell (l.take k)).length ≤ k:=by
 have:=List.length_filter_le (miss cell) (l.take k)
 rw [List.length_take,Nat.min_eq_left h] at this;exact this
theorem hitsH_le {cell : Int} {l : List Heap} {k : Nat} (h : k ≤ l.length) : (hitsH cell (l.take k)).length ≤ k:=by
 have:=List.length_filter_le (hit cell) (l.take k)
 rw [List.length_take,Nat.min_eq_left h] at this
 unfold hitsH;rw [List.length_map];exact this
theorem keptH_all {cell : Int} {l : List Heap} (hm : ∀ k < l.length,¬ (elt .heap l k).cell = cell) : keptH cell l = l ∧ hitsH cell l = []:=by
 have hx : ∀ x ∈ l,¬ x.cell = cell:=by
   intro x hx
   obtain ⟨i,hi,rfl⟩:=List.mem_iff_getElem.1 hx
   have:=elt_get .heap l i hi
   rw [List.getElem?_eq_getElem hi] at this
   rw [Option.some.inj this];exact hm i hi
 constructor
 · exact List.filter_eq_self.2 fun x h=>by simp [miss,hx x h]
 · unfold hitsH
   rw [List.filter_eq_nil_iff.2 fun x h=>by simp [hit,hx x h]];rfl
theorem del_none (l : List (El .heap)) (cell : Int) (hl : l.length ≤ 9000000000000000000) (hm : ∀ k < l.length,¬ (elt .heap l k).cell = cell) : Ev1 Tryz.prog 118 [.own .heap 1 0 l.length none,.clo (.func 119) [] [.ptr 0 0,.ptr 2 0]] [(0,.box [i64 cell]),(2,.box [.lit (.slice none 0 0)]),(1,.row .heap l)] (.own .heap 1 0 l.length none) [(0,.box [i64 cell]),(2,.box [.lit (.slice none 0 0)]),(1,.row .heap l)]:=by
 refine Ev1.of_fin cfg_ok Tryz.func118 rfl (nt:=40) rfl rfl rfl ?_
 conv=>whnf
 repeat' (first|exact trivial|((first|refine kL ?_|(refine ⟨fun hb=>?_,fun hb=>?_⟩<;>(try simp only [nrm] at hb)<;>(try (first|(exfalso;omega)|contradiction|exact kB hb)))|(refine isE 99 ?_;refine kE (idx_none l cell hl hm) [(0,0),(2,2),(1,1)] rfl ?_)|(refine isD 99 ?_;refine kF (idx_none l cell hl hm) [(0,0),(2,2),(1,1)] rfl ?_)|refine kW cfg_ok ?_|refine kC ?_|refine bdA ?_|refine bd2 ?_|refine bdR ?_|refine bdL ?_)<;>(conv=>whnf))|(refine And.intro ?_ ?_;rotate_left;(conv=>whnf);rotate_right))
 all_goals first|exact List.take_length
theorem del_some (l : List (El .heap)) (cell : Int) (i : Nat) (hl : l.length ≤ 4000000000000) (hi : i < l.length) (hm : ∀ k < i,¬ (elt .heap l k).cell = cell) (hh : (elt .heap l i).cell = cell) : Ev1 Tryz.prog 118 [.own .heap 1 0 l.length none,.clo (.func 119) [] [.ptr 0 0,.ptr 2 0]] [(0,.box [i64 cell]),(2,.box [.lit (.slice none 0 0)]),(1,.row .heap l)] (.own .heap 1 0 (keptH cell l).length none) [(0,.box [i64 cell]),(2,.box [.own .slot 390001 0 (hitsH cell l).length none]),(1,.row .heap (keptH cell l)),(390001,.row .slot (hitsH cell l))]:=by
 have hpre : keptH cell (l.take i) = l.take i ∧ hitsH cell (l.take i) = []:=by
   refine keptH_all fun k hk=>?_
   rw [List.length_take,Nat.min_eq_left (by omega)] at hk
   have e : elt .heap (l.take i) k = elt .heap l k:=by unfold elt;rw [List.getElem?_take_of_lt hk]
   rw [e];exact hm k hk
 refine Ev1.of_fin cfg_ok Tryz.func118 rfl (nt:=40) rfl rfl rfl ?_
 conv=>whnf
 repeat' (first|exact trivial|((first|refine kL ?_|(refine ⟨fun hb=>?_,fun hb=>?_⟩<;>(try simp only [nrm] at hb)<;>(try (first|(exfalso;omega)|contradiction|exact kB hb)))|(refine isE 99 ?_;refine kE (idx_some l cell i (by omega) hi hm hh) [(0,0),(2,2),(1,1),(390001,350001)] rfl ?_)|(refine isD 99 ?_;refine kF (idx_some l cell i (by omega) hi hm hh) [(0,0),(2,2),(1,1),(390001,350001)] rfl ?_)|refine kW cfg_ok ?_|refine kC ?_|refine bdA ?_|refine bd2 ?_|refine bdR ?_|refine bdL ?_)<;>(conv=>whnf))|(refine And.intro ?_ ?_;rotate_left;(conv=>whnf);rotate_right))
 have e0 : keptH cell (l.take (i + 1)) = l.take i:=by rw [keptH_next hi,if_pos hh,List.append_nil,hpre.1]
 have e1 : hitsH cell (l.take (i + 1)) = [(elt .heap l i).slot]:=by rw [hitsH_next hi,if_pos hh,hpre.2];rfl
 refine Runs.loopS cfg_ok (σ:=Nat × List Heap) [0,1,5,6] (fun (j,mid)=>[.own .heap 1 0 l.length none,.clo (.func 119) [] [.ptr 0 0,.ptr 2 0],i64 (keptH cell (l.take j)).length,i64 j])
   (fun (j,mid)=>[(0,.box [i64 cell]),(2,.box [.own .slot 350001 0 (hitsH cell (l.take j)).length none]),(1,.row .heap (keptH cell (l.take j) ++ (mid ++ l.drop j))),(350001,.row .slot (hitsH cell (l.take j)))])
   (fun (j,mid)=>i < j ∧ j ≤ l.length ∧ (keptH cell (l.take j)).length + mid.length = j ∧ 0 < mid.length) (fun (j,mid)=>l.length - j) (i + 1,[elt .heap l i]) ⟨by omega,by omega,by rw [e0];simp;omega,by simp⟩ ?_ ?_
 · conv=>whnf
   repeat' (first|exact trivial|((first|refine kL ?_|(refine ⟨fun hb=>?_,fun hb=>?_⟩<;>(try simp only [nrm] at hb)<;>(try (first|(exfalso;omega)|contradiction|exact kB hb)))|refine kW cfg_ok ?_|refine kC ?_|refine bdA ?_|refine bd2 ?_|refine bdR ?_|refine bdL ?_)<;>(conv=>whnf))|(refine And.intro ?_ ?_;rotate_left;(conv=>whnf);rotate_right))
   · rw [e0,List.take_length]
     conv=>lhs;rw [← List.take_append_drop i l,drop_elt (t:=.heap) hi]
     rfl
   · rw [e0,List.length_take,Nat.min_eq_left (by omega)]
   · rw [e1];rfl
   · rw [e1];rfl
 · rintro ⟨j,mid⟩ ⟨h1,h2,h3,h4⟩
   dsimp only
   by_cases hlt : j < l.length
   · have hKn:=keptH_next (cell:=cell) hlt
     have hHn:=hitsH_next (cell:=cell) hlt
     have hHl:=hitsH_le (cell:=cell) h2
     generalize keptH cell (l.take j) = K at *
     generalize hitsH cell (l.take j) = H at *
     have hRl : (K ++ (mid ++ l.drop j)).length = l.length:=by simp;omega
     have hRe : elt .heap (K ++ (mid ++ l.drop j)) j = elt .heap l j:=by
       unfold elt
       rw [← List.append_assoc,List.getElem?_append_right (by simp;omega),List.length_append,h3,Nat.sub_self,List.getElem?_drop];rfl
     generalize hR : K ++ (mid ++ l.drop j) = R at *
     have hRe2 : (elt .heap R ((j : Int).toNat + 0)).cell = (elt .heap R j).cell:=by simp
     by_cases hc : (elt .heap R j).cell = cell
     · rw [hRe] at hc
       rw [if_pos hc] at hKn hHn
       rw [← hRe] at hc
       conv=>whnf
       repeat' (first|exact trivial|((first|refine kL ?_|(refine ⟨fun hb=>?_,fun hb=>?_⟩<;>(try simp only [nrm] at hb)<;>(try (first|(exfalso;omega)|contradiction|exact kB hb)))|(refine isE 119 ?_;refine kE (lift1_hit (elt .heap R j) cell H _ rfl (by omega) hc) [(0,0),(2,2),(1,350001),(390001,350003)] rfl ?_)|(refine isD 119 ?_;refine kF (lift1_hit (elt .heap R j) cell H _ rfl (by omega) hc) [(0,0),(2,2),(1,350001),(390001,350003)] rfl ?_)|refine kW cfg_ok ?_|refine kC ?_|refine bdA ?_|refine bd2 ?_|refine bdR ?_|refine bdL ?_)<;>(conv=>whnf))|(refine And.intro ?_ ?_;rotate_left;(conv=>whnf);rotate_right))
       refine .to (j + 1,mid ++ [elt .heap l j]) ⟨by dsimp only;omega,by dsimp only;omega,by dsimp only;rw [hKn];simp;omega,by simp⟩ (by dsimp only;omega) ?_
       have hrow : R = keptH cell (l.take (j + 1)) ++ ((mid ++ [elt .heap l j]) ++ l.drop (j + 1)):=by
         rw [← hR,hKn,drop_elt (t:=.heap) hlt];simp
       rw [List.append_nil] at hKn
       conv=>whnf
       repeat' (first|exact trivial|((first|refine kL ?_|(refine ⟨fun hb=>?_,fun hb=>?_⟩<;>(try simp only [nrm] at hb)<;>(try (first|(exfalso;omega)|contradiction|exact kB hb)))|refine kW cfg_ok ?_|refine kC ?_|refine bdA ?_|refine bd2 ?_|refine bdR ?_|refine bdL ?_)<;>(conv=>whnf))|(refine And.intro ?_ ?_;rotate_left;(conv=>whnf);rotate_right))
       · exact (take_all hRl).trans hrow
       · show Value.int .i64 (K.length : Int) = Value.int .i64 ((keptH cell (l.take (j + 1))).length : Int);rw [hKn]
       · show H.length + 1 = (hitsH cell (l.take (j + 1))).length;rw [hHn];simp
       · show List.take _ _ = hitsH cell (l.take (j + 1));rw [hHn,hRe];exact take_all (by simp)
     · rw [hRe] at hc
       rw [if_neg hc] at hKn hHn
       rw [← hRe] at hc
       conv=>whnf
       repeat' (first|exact trivial|((first|refine kL ?_|(refine ⟨fun hb=>?_,fun hb=>?_⟩<;>(try simp only [nrm] at hb)<;>(try (first|(exfalso;omega)|contradiction|exact kB hb)))|(refine isE 119 ?_;refine kE (lift1_miss (elt .heap R j) cell H _ rfl hc) [(0,0),(2,2),(1,350001)] rfl ?_)|(refine isD 119 ?_;refine kF (lift1_miss (elt .heap R j) cell H _ rfl hc) [(0,0),(2,2),(1,350001)] rfl ?_)|refine kW cfg_ok ?_|refine kC ?_|refine bdA ?_|refine bd2 ?_|refine bdR ?_|refine bdL ?_)<;>(conv=>whnf))|(refine And.intro ?_ ?_;rotate_left;(conv=>whnf);rotate_right))
       refine .to (j + 1,mid.tail ++ [elt .heap l j]) ⟨by dsimp only;omega,by dsimp only;omega,by dsimp only;rw [hKn];simp;omega,by simp⟩ (by dsimp only;omega) ?_
       have hrow : R.set K.length (elt .heap R j) = keptH cell (l.take (j + 1)) ++ ((mid.tail ++ [elt .heap l j]) ++ l.drop (j + 1)):=by
         rw [hRe,← hR,hKn,drop_elt (t:=.heap) hlt,List.set_append_right _ _ (by omega),Nat.sub_self]
         cases mid with
         | nil=>simp at h4
         | cons m mid=>simp
       have hrl : (keptH cell (l.take (j + 1)) ++ ((mid.tail ++ [elt .heap l j]) ++ l.drop (j + 1))).length = l.length:=by rw [← hrow,List.length_set,hRl]
       rw [List.append_nil] at hHn
       conv=>whnf
       repeat' (first|exact trivial|((first|refine kL ?_|(refine ⟨fun hb=>?_,fun hb=>?_⟩<;>(try simp only [nrm] at hb)<;>(try (first|(exfalso;omega)|contradiction|exact kB hb)))|refine kW cfg_ok ?_|refine kC ?_|refine bdA ?_|refine bd2 ?_|refine bdR ?_|refine bdL ?_)<;>(conv=>whnf))|(refine And.intro ?_ ?_;rotate_left;(conv=>whnf);rotate_right))
       · simp only [Int.toNat_natCast,Nat.add_zero];exact (take_all (by rw [List.length_set,hRl])).trans hrow
       · refine congrArg (Value.int .i64) ?_;dsimp only;rw [hKn];simp
       · show H.length = (hitsH cell (l.take (j + 1))).length;rw [hHn]
       · show List.take _ _ = hitsH cell (l.take (j + 1));rw [hHn];exact List.take_length
   · obtain rfl : j = l.length:=by omega
     have hKl:=keptH_le (cell:=cell) (Nat.le_refl l.length)
     rw [List.take_length,List.drop_length] at *
     generalize keptH cell l = K at *
     generalize hitsH cell l = H at *
     conv=>whnf
     repeat' (first|exact trivial|((first|refine kL ?_|(refine ⟨fun hb=>?_,fun hb=>?_⟩<;>(try simp only [nrm] at hb)<;>(try (first|(exfalso;omega)|contradiction|exact kB hb)))|refine kW cfg_ok ?_|refine kC ?_|refine bdA ?_|refine bd2 ?_|refine bdR ?_|refine bdL ?_)<;>(conv=>whnf))|(refine And.intro ?_ ?_;rotate_left;(conv=>whnf);rotate_right))
     all_goals (try simp only [Int.toNat_natCast,Nat.add_zero,Int.sub_zero])
     · exact upon_length _ _ _ (by simp)
     · rw [take_upon _ _ _ (by simp)];exact List.take_left' rfl
     · exact List.take_length
theorem first_hit {p : Nat → Prop} (hd : ∀ k,p k ∨ ¬ p k) : ∀ n : Nat,(∀ k < n,¬ p k) ∨ ∃ i < n,p i ∧ ∀ k < i,¬ p k
 | 0=>.inl (by omega)
 | n + 1=>by
   rcases first_hit hd n with h|⟨i,hi,h1,h2⟩
   · rcases hd n with hp|hp
     · exact .inr ⟨n,by omega,hp,h⟩
     · left
       intro k hk
       by_cases e : k = n
       · subst e;exact hp
       · exact h k (by omega)
   · exact .inr ⟨i,by omega,h1,h2⟩
def liftC (c : Chunk) (cell : Int) : Chunk × List Slot:=if rightB c = true then ({ c with heaps:=keptH cell c.heaps },hitsH cell c.heaps) else (c,[])
theorem lift_api (c : Chunk) (cell : Int) (hc : OkC c) (hf : FitC c) : Api Tryz.prog 76 [chunkV c,i64 cell] (.tup [chunkV (liftC c cell).1,.vec .slot (liftC c cell).2]):=by
 have hrt:=cright_api c hc
 have hh:=hf.heaps
 cases hR : rightB c with
 | false =>
   rw [hR] at hrt
   have hs : liftC c cell = (c,[]):=by unfold liftC;rw [if_neg (by rw [hR];simp)]
   rw [hs]
   refine Api.of_fin cfg_ok Tryz.func76 rfl (nt:=18) rfl rfl ?_
   conv=>whnf
   repeat' (first|exact trivial|((first|refine kL ?_|(refine ⟨fun hb=>?_,fun hb=>?_⟩<;>(try simp only [nrm] at hb)<;>(try (first|(exfalso;omega)|contradiction|exact kB hb)))|(refine isE 106 ?_;refine kE (copied_ev c hf) [(390001,150001),(390003,150003),(390005,150005)] rfl ?_)|(refine isD 106 ?_;refine kF (copied_ev c hf) [(390001,150001),(390003,150003),(390005,150005)] rfl ?_)|refine kA hrt ?_|refine kD hrt ?_|refine kW cfg_ok ?_|refine kC ?_|refine bdA ?_|refine bd2 ?_|refine bdR ?_|refine bdL ?_)<;>(conv=>whnf))|(refine And.intro ?_ ?_;rotate_left;(conv=>whnf);rotate_right))
   all_goals (simp;done)
 | true =>
   rw [hR] at hrt
   have hs : liftC c cell = ({ c with heaps:=keptH cell c.heaps },hitsH cell c.heaps):=by unfold liftC;rw [if_pos hR]
   rw [hs]
   rcases first_hit (p:=fun k=>(elt .heap c.heaps k).cell = cell) (fun k=>Classical.em _) c.heaps.length with hm|⟨i,hi,h1,h2⟩
   · obtain ⟨e1,e2⟩:=keptH_all hm
     rw [e1,e2]
     refine Api.of_fin cfg_ok Tryz.func76 rfl (nt:=18) rfl rfl ?_
     conv=>whnf
     repeat' (first|exact trivial|((first|refine kL ?_|(refine ⟨fun hb=>?_,fun hb=>?_⟩<;>(try simp only [nrm] at hb)<;>(try (first|(exfalso;omega)|contradiction|exact kB hb)))|(refine isE 106 ?_;refine kE (copied_ev c hf) [(390001,150001),(390003,150003),(390005,150005)] rfl ?_)|(refine isD 106 ?_;refine kF (copied_ev c hf) [(390001,150001),(390003,150003),(390005,150005)] rfl ?_)|(refine isE 118 ?_;refine kE (del_none c.heaps cell (by omega) hm) [(1,150003),(0,6),(2,14)] rfl ?_)|(refine isD 118 ?_;refine kF (del_none c.heaps cell (by omega) hm) [(1,150003),(0,6),(2,14)] rfl ?_)|refine kA hrt ?_|refine kD hrt ?_|refine kW cfg_ok ?_|refine kC ?_|refine bdA ?_|refine bd2 ?_|refine bdR ?_|refine bdL ?_)<;>(conv=>whnf))|(refine And.intro ?_ ?_;rotate_left;(conv=>whnf);rotate_right))
     all_goals (simp;done)
   · have h32 : c.heaps.length ≤ 4000000000000:=by have:=right_heaps hR;omega
     have hk:=keptH_le (cell:=cell) (Nat.le_refl c.heaps.length)
     rw [List.take_length] at hk
     refine Api.of_fin cfg_ok Tryz.func76 rfl (nt:=18) rfl rfl ?_
     conv=>whnf
     repeat' (first|exact trivial|((first|refine kL ?_|(refine ⟨fun hb=>?_,fun hb=>?_⟩<;>(try simp only [nrm] at hb)<;>(try (first|(exfalso;omega)|contradiction|exact kB hb)))|(refine isE 106 ?_;refine kE (copied_ev c hf) [(390001,150001),(390003,150003),(390005,150005)] rfl ?_)|(refine isD 106 ?_;refine kF (copied_ev c hf) [(390001,150001),(390003,150003),(390005,150005)] rfl ?_)|(refine isE 118 ?_;refine kE (del_some c.heaps cell i h32 hi h2 h1) [(1,150003),(0,6),(2,14),(390001,150007)] rfl ?_)|(refine isD 118 ?_;refine kF (del_some c.heaps cell i h32 hi h2 h1) [(1,150003),(0,6),(2,14),(390001,150007)] rfl ?_)|refine kA hrt ?_|refine kD hrt ?_|refine kW cfg_ok ?_|refine kC ?_|refine bdA ?_|refine bd2 ?_|refine bdR ?_|refine bdL ?_)<;>(conv=>whnf))|(refine And.intro ?_ ?_;rotate_left;(conv=>whnf);rotate_right))
     all_goals (first|(simp;done)|skip)
open Go Go.RowKit Eng
def cnt (k : Int) (s : Slot) : Int:=if ¬ k = 0 ∧ s.item = k then max s.n 0 else 0
def countS : List Slot → Int → Int
 | [],_=>0
 | s :: r,k=>cnt k s + countS r k
theorem countS_app (a b : List Slot) (k : Int) : countS (a ++ b) k = countS a k + countS b k:=by
 induction a with
 | nil=>simp [countS]
 | cons s r ih=>simp only [List.cons_append,countS,ih];omega
theorem cnt_bd (k : Int) (s : Slot) (h : s.n ≤ 16) : 0 ≤ cnt k s ∧ cnt k s ≤ 16:=by unfold cnt;split<;>omega
theorem countS_bd {l : List Slot} (k : Int) (h : ∀ s ∈ l,s.n ≤ 16) : 0 ≤ countS l k ∧ countS l k ≤ 16 * l.length:=by
 induction l with
 | nil=>simp [countS]
 | cons s r ih =>
   have:=ih fun x hx=>h x (by simp [hx])
   have:=cnt_bd k s (h s (by simp))
   simp only [countS,List.length_cons];omega
theorem countS_next {l : List Slot} {k : Nat} (i : Int) (h : k < l.length) : countS (l.take (k + 1)) i = countS (l.take k) i + cnt i (elt .slot l k):=by
 have:=elt_get .slot l k h
 rw [List.take_add_one,this,countS_app]
 simp [countS]
def sel (k i x : Int) : Int:=if ¬ k = 0 ∧ i = k then x else 0
theorem fstep_count {may : Slot → Bool} {i size k : Int} {p : List Slot × Int} {s : Slot} (h : may s = true → 0 ≤ s.n ∧ cnt k s = sel k i s.n) :
   countS (fstep may i size p s).1 k + sel k i (fstep may i size p s).2 = countS p.1 k + cnt k s + sel k i p.2:=by
 unfold fstep
 split
 · rename_i hc
   obtain ⟨h1,h2⟩:=h hc.1
   rw [countS_app]
   simp only [countS,h2]
   have h3:=hc.2
   generalize min (size - s.n) p.2 = m at *
   have : cnt k ⟨i,s.n + m⟩ = sel k i (s.n + m):=by
     unfold cnt sel
     split
     · simp only;omega
     · rfl
   rw [this]
   unfold sel
   split<;>omega
 · rw [countS_app];simp only [countS];omega
theorem fill_count {may : Slot → Bool} {i size k : Int} : ∀ (l : List Slot) (p : List Slot × Int),(∀ s ∈ l,may s = true → 0 ≤ s.n ∧ cnt k s = sel k i s.n) →
   countS (l.foldl (fstep may i size) p).1 k + sel k i (l.foldl (fstep may i size) p).2 = countS p.1 k + countS l k + sel k i p.2
 | [],p,_=>by simp [countS]
 | s :: r,p,h=>by
   rw [List.foldl_cons,fill_count r _ fun x hx=>h x (by simp [hx]),]
   have:=fstep_count (size:=size) (p:=p) (h s (by simp))
   simp only [countS];omega
theorem badSlot_false {s : Slot} : badSlot s = false ↔ (s.item = 0 ∧ s.n = 0) ∨ (1 ≤ s.n ∧ s.n ≤ stackN s.item):=by
 simp only [badSlot,Bool.and_eq_false_iff,Bool.or_eq_false_iff,Bool.not_eq_false',Bool.and_eq_true,beq_iff_eq,decide_eq_false_iff_not]
 omega
theorem bagOk_iff {l : List Slot} : bagOk l = true ↔ ∀ s ∈ l,badSlot s = false:=by
 unfold bagOk
 simp
theorem fill_ok {may : Slot → Bool} {i : Int} : ∀ (l : List Slot) (p : List Slot × Int),(∀ s ∈ l,badSlot s = false) → (∀ s ∈ p.1,badSlot s = false) → ∀ s ∈ (l.foldl (fstep may i (stackN i)) p).1,badSlot s = false
 | [],p,_,hp=>hp
 | s :: r,p,hl,hp=>by
   rw [List.foldl_cons]
   refine fill_ok r _ (fun x hx=>hl x (by simp [hx])) fun x hx=>?_
   unfold fstep at hx
   split at hx
   · rename_i hc
     rcases List.mem_append.1 hx with hx|hx
     · exact hp x hx
     · rw [List.mem_singleton] at hx;subst hx
       have:=badSlot_false.1 (hl s (by simp))
       have:=hc.2
       rw [badSlot_false];simp only;omega
   · rcases List.mem_append.1 hx with hx|hx
     · exact hp x hx
     · rw [List.mem_singleton] at hx;subst hx;exact hl x (by simp)
theorem putS_bagOk {l : List Slot} {i n : Int} (h : bagOk l = true) : bagOk (putS l i n).1 = true:=by
 unfold putS
 (repeat' split)
 · exact h
 · exact h
 · rw [bagOk_iff] at h ⊢
   exact fill_ok _ _ (fill_ok _ _ h (by simp)) (by simp)
theorem putS_left {l : List Slot} {i n : Int} (h0 : 0 ≤ n) : 0 ≤ (putS l i n).2 ∧ (putS l i n).2 ≤ n:=by
 unfold putS
 split
 · simp only;omega
 · split
   · simp only;omega
   · rename_i hc
     have hb : bagOk l = true:=by cases hb : bagOk l with|true=>rfl|false=>exact absurd (.inr hb) hc
     have h1:=fillS_n (may:=mayI i) (i:=i) (l:=l) (n:=n) (stackN_bd i).2 h0 (bagOk_small hb)
     have h2:=fillS_n (may:=may0) (i:=i) (l:=(fillS (mayI i) i (stackN i) l n).1) (n:=(fillS (mayI i) i (stackN i) l n).2) (stackN_bd i).2 h1.2.1 h1.1
     omega
theorem cnt_mayI {i k : Int} {s : Slot} (h : 0 ≤ s.n) (hm : mayI i s = true) : 0 ≤ s.n ∧ cnt k s = sel k i s.n:=by
 have : s.item = i:=by simpa [mayI] using hm
 refine ⟨h,?_⟩
 unfold cnt sel
 subst this
 split<;>omega
theorem cnt_may0 {i k : Int} {s : Slot} (hm : may0 s = true) : 0 ≤ s.n ∧ cnt k s = sel k i s.n:=by
 have : s.n = 0:=by simpa [may0] using hm
 refine ⟨by omega,?_⟩
 unfold cnt sel
 rw [this]
 (repeat' split)<;>rfl
theorem putS_count {l : List Slot} {i n : Int} (h0 : 0 ≤ n) (k : Int) : countS (putS l i n).1 k + sel k i (putS l i n).2 = countS l k + sel k i n:=by
 unfold putS
 split
 · have : n = 0:=by omega
   subst this;rfl
 · split
   · rfl
   · rename_i hc
     have hb : bagOk l = true:=by cases hb : bagOk l with|true=>rfl|false=>exact absurd (.inr hb) hc
     have hs:=bagOk_small hb
     have h1:=fillS_n (may:=mayI i) (i:=i) (l:=l) (n:=n) (stackN_bd i).2 h0 hs
     have e1:=fill_count (may:=mayI i) (i:=i) (size:=stackN i) (k:=k) l ([],n) fun s hs' hm=>cnt_mayI (hs s hs').1 hm
     have e2:=fill_count (may:=may0) (i:=i) (size:=stackN i) (k:=k) (fillS (mayI i) i (stackN i) l n).1 ([],(fillS (mayI i) i (stackN i) l n).2) fun s hs' hm=>cnt_may0 hm
     change countS (fillS (mayI i) i (stackN i) l n).1 k + sel k i (fillS (mayI i) i (stackN i) l n).2 = _ at e1
     change countS (fillS may0 i (stackN i) (fillS (mayI i) i (stackN i) l n).1 (fillS (mayI i) i (stackN i) l n).2).1 k + sel k i (fillS may0 i (stackN i) (fillS (mayI i) i (stackN i) l n).1 (fillS (mayI i) i (stackN i) l n).2).2 = _ at e2
     simp only [countS] at e1 e2
     omega
theorem allGo_len : ∀ (m l out : List Slot),allGo m l = some out → out.length = l.length
 | [],l,out,h=>by simp [allGo] at h;rw [h]
 | s :: r,l,out,h=>by
   simp only [allGo] at h
   split at h
   · cases h
   · rw [allGo_len r _ out h,putS_length]
theorem allGo_bagOk : ∀ (m l out : List Slot),bagOk l = true → allGo m l = some out → bagOk out = true
 | [],l,out,hb,h=>by simp [allGo] at h;rw [← h];exact hb
 | s :: r,l,out,hb,h=>by
   simp only [allGo] at h
   split at h
   · cases h
   · exact allGo_bagOk r _ out (putS_bagOk hb) h
theorem allGo_count (k : Int) : ∀ (m l out : List Slot),smallN m → allGo m l = some out → countS out k = countS l k + countS m k
 | [],l,out,_,h=>by simp [allGo] at h;rw [h];simp [countS]
 | s :: r,l,out,hm,h=>by
   simp only [allGo] at h
   split at h
   · cases h
   · rename_i hp
     have hs:=hm s (by simp)
     have e:=allGo_count k r _ out (fun x hx=>hm x (by simp [hx])) h
     have e2:=putS_count (l:=l) (i:=s.item) hs.1 k
     have h3:=putS_left (l:=l) (i:=s.item) hs.1
     have h4 : (putS l s.item s.n).2 = 0:=by omega
     rw [h4] at e2
     simp only [countS]
     have h5 : cnt k s = sel k s.item s.n:=by unfold cnt sel;split<;>omega
     have h6 : sel k s.item 0 = 0:=by unfold sel;split<;>rfl
     omega
theorem allS_ok {l m : List Slot} (h : (allS l m).2 = 0) : bagOk l = true ∧ bagOk m = true ∧ allGo m l = some (allS l m).1:=by
 unfold allS at h ⊢
 split at h
 · cases h
 · rename_i hc
   rw [if_neg hc]
   split at h
   · rename_i out ho
     refine ⟨?_,?_,?_⟩
     · cases hb : bagOk l with|true=>rfl|false=>exact absurd (.inl hb) hc
     · cases hb : bagOk m with|true=>rfl|false=>exact absurd (.inr hb) hc
     · rw [ho]
   · cases h
theorem allS_props {l m : List Slot} (h : (allS l m).2 = 0) : (allS l m).1.length = l.length ∧ bagOk (allS l m).1 = true ∧ ∀ k,countS (allS l m).1 k = countS l k + countS m k:=by
 obtain ⟨h1,h2,h3⟩:=allS_ok h
 exact ⟨allGo_len _ _ _ h3,allGo_bagOk _ _ _ h1 h3,fun k=>allGo_count k _ _ _ (bagOk_small h2) h3⟩
theorem set_count {l : List Slot} {a : Nat} (ha : a < l.length) (x : Slot) (k : Int) : countS (l.set a x) k + cnt k (elt .slot l a) = countS l k + cnt k x:=by
 have h1 : l = l.take a ++ elt .slot l a :: l.drop (a + 1):=by rw [← drop_elt (t:=.slot) ha,List.take_append_drop]
 have h2 : l.set a x = l.take a ++ x :: l.drop (a + 1):=List.set_eq_take_append_cons_drop.trans (by rw [if_pos ha])
 rw [h2]
 conv=>rhs;rw [h1]
 rw [countS_app,countS_app]
 simp only [countS];omega
theorem take_count {l : List Slot} {a : Nat} {n : Int} (hb : bagOk l = true) (ha : a < l.length) (hn : 1 ≤ n) (hn2 : n ≤ (elt .slot l a).n) (k : Int) :
   countS (l.set a (lessS (elt .slot l a) n)) k + sel k (elt .slot l a).item n = countS l k:=by
 have h:=set_count ha (lessS (elt .slot l a) n) k
 have : cnt k (elt .slot l a) = cnt k (lessS (elt .slot l a) n) + sel k (elt .slot l a).item n:=by
   unfold lessS cnt sel
   split
   · (repeat' split)<;>(try simp only at *)<;>omega
   · (repeat' split)<;>(try simp only at *)<;>omega
 omega
theorem take_bagOk {l : List Slot} {a : Nat} {n : Int} (hb : bagOk l = true) (ha : a < l.length) (hn : 1 ≤ n) (hn2 : n ≤ (elt .slot l a).n) : bagOk (l.set a (lessS (elt .slot l a) n)) = true:=by
 have hs:=badSlot_false.1 (bagOk_iff.1 hb _ (elt_mem (t:=.slot) ha))
 rw [bagOk_iff] at hb ⊢
 intro x hx
 rcases List.mem_or_eq_of_mem_set hx with hx|rfl
 · exact hb x hx
 · rw [badSlot_false];unfold lessS;split
   · exact .inl ⟨rfl,rfl⟩
   · right;simp only;omega
theorem count_api (l : List (El .slot)) (i : Int) (h : ∀ s ∈ l,s.n ≤ 16) (hl : l.length ≤ 100000000000000000) : Api Tryz.prog 122 [.vec .slot l,.lit (.int .u8 i)] (i64 (countS l i)):=by
 refine Api.of_fin cfg_ok Tryz.func122 rfl (nt:=27) rfl rfl ?_
 conv=>whnf
 refine Runs.loopS cfg_ok (σ:=Nat) [1,5,8,9,10] (fun k=>[.lit (.int .u8 i),i64 (countS (l.take k) i),.vec .slot l,i64 l.length,i64 k]) (fun _=>[]) (fun k=>k ≤ l.length) (fun k=>l.length - k) 0 (by omega) ?_ ?_
 · conv=>whnf
   repeat' (first|exact trivial|((first|refine kL ?_|(refine ⟨fun hb=>?_,fun hb=>?_⟩<;>(try simp only [nrm] at hb)<;>(try (first|(exfalso;omega)|contradiction|exact kB hb)))|refine kW cfg_ok ?_|refine kC ?_|refine bdA ?_|refine bd2 ?_|refine bdR ?_|refine bdL ?_)<;>(conv=>whnf))|(refine And.intro ?_ ?_;rotate_left;(conv=>whnf);rotate_right))
   all_goals trace_state
 · intro k hk
   by_cases hlt : k < l.length
   · have hb1:=countS_bd i (fun s hs=>h s (List.mem_of_mem_take hs) : ∀ s ∈ l.take k,s.n ≤ 16)
     rw [List.length_take] at hb1
     have hb2:=h _ (elt_mem (t:=.slot) hlt)
     have hb3 : (elt .slot l (k : Int).toNat).n = (elt .slot l k).n:=rfl
     have hN:=countS_next i hlt
     have hN2 : cnt i (elt .slot l k) = if ¬ i = 0 ∧ (elt .slot l k).item = i then max (elt .slot l k).n 0 else 0:=rfl
     conv=>whnf
     repeat' (first|exact trivial|((first|refine kL ?_|(refine ⟨fun hb=>?_,fun hb=>?_⟩<;>(try simp only [nrm] at hb)<;>(try (first|(exfalso;omega)|contradiction|exact kB hb)))|refine kW cfg_ok ?_|refine kC ?_|refine bdA ?_|refine bd2 ?_|refine bdR ?_|refine bdL ?_)<;>(conv=>whnf))|(refine And.intro ?_ ?_;rotate_left;(conv=>whnf);rotate_right))
     all_goals
       refine .to (k + 1) hlt (by omega) ?_
       conv=>whnf
       repeat' (first|exact trivial|((first|refine kL ?_|(refine ⟨fun hb=>?_,fun hb=>?_⟩<;>(try simp only [nrm] at hb)<;>(try (first|(exfalso;omega)|contradiction|exact kB hb)))|refine kW cfg_ok ?_|refine kC ?_|refine bdA ?_|refine bd2 ?_|refine bdR ?_|refine bdL ?_)<;>(conv=>whnf))|(refine And.intro ?_ ?_;rotate_left;(conv=>whnf);rotate_right))
     all_goals trace_state
   · obtain rfl : k = l.length:=by omega
     conv=>whnf
     repeat' (first|exact trivial|((first|refine kL ?_|(refine ⟨fun hb=>?_,fun hb=>?_⟩<;>(try simp only [nrm] at hb)<;>(try (first|(exfalso;omega)|contradiction|exact kB hb)))|refine kW cfg_ok ?_|refine kC ?_|refine bdA ?_|refine bd2 ?_|refine bdR ?_|refine bdL ?_)<;>(conv=>whnf))|(refine And.intro ?_ ?_;rotate_left;(conv=>whnf);rotate_right))
     all_goals rw [List.take_length]
open Go Go.RowKit Eng
def givesI (i : Int) : Int:=if i = 4 then 11 else if blockB i = true then i else 0
theorem gives1_tt (s : ByteArray) (n : Int) (g : Int) : Api Tryz.prog 116 [.agg [.lit (.string s),.lit (.int .i64 n),.tt,.lit (.int .u8 g)]] (.lit (.int .u8 g)):=by
 refine Api.of_fin cfg_ok Tryz.func116 rfl (nt:=4) rfl rfl ?_
 conv=>whnf
 repeat' (first|exact trivial|((first|refine kL ?_|(refine ⟨fun hb=>?_,fun hb=>?_⟩<;>(try simp only [nrm] at hb)<;>(try (first|(exfalso;omega)|contradiction|exact kB hb)))|refine kW cfg_ok ?_|refine kC ?_|refine bdA ?_|refine bd2 ?_|refine bdR ?_|refine bdL ?_)<;>(conv=>whnf))|(refine And.intro ?_ ?_;rotate_left;(conv=>whnf);rotate_right))
theorem gives1_ff (s : ByteArray) (n : Int) (g : Int) : Api Tryz.prog 116 [.agg [.lit (.string s),.lit (.int .i64 n),.ff,.lit (.int .u8 g)]] (.lit (.int .u8 g)):=by
 refine Api.of_fin cfg_ok Tryz.func116 rfl (nt:=4) rfl rfl ?_
 conv=>whnf
 repeat' (first|exact trivial|((first|refine kL ?_|(refine ⟨fun hb=>?_,fun hb=>?_⟩<;>(try simp only [nrm] at hb)<;>(try (first|(exfalso;omega)|contradiction|exact kB hb)))|refine kW cfg_ok ?_|refine kC ?_|refine bdA ?_|refine bd2 ?_|refine bdR ?_|refine bdL ?_)<;>(conv=>whnf))|(refine And.intro ?_ ?_;rotate_left;(conv=>whnf);rotate_right))
theorem ofG_hi (i : Int) (h : 13 ≤ i) (h2 : i ≤ 255) : Api Tryz.prog 115 [.lit (.int .u8 i),.lit (.func (.func 116) #[] #[])] (.lit (.int .u8 0)):=by
 refine Api.of_fin cfg_ok Tryz.func115 rfl (nt:=29) rfl rfl ?_
 conv=>whnf
 repeat' (first|exact trivial|((first|refine kL ?_|(refine ⟨fun hb=>?_,fun hb=>?_⟩<;>(try simp only [nrm] at hb)<;>(try (first|(exfalso;omega)|contradiction|exact kB hb)))|(refine isE 116 ?_;refine kA (gives1_ff _ _ _) ?_)|(refine isD 116 ?_;refine kD (gives1_ff _ _ _) ?_)|refine kW cfg_ok ?_|refine kC ?_|refine bdA ?_|refine bd2 ?_|refine bdR ?_|refine bdL ?_)<;>(conv=>whnf))|(refine And.intro ?_ ?_;rotate_left;(conv=>whnf);rotate_right))
theorem ofG_lo (i : Int) (h : 0 ≤ i) (h2 : i < 13) : Api Tryz.prog 115 [.lit (.int .u8 i),.lit (.func (.func 116) #[] #[])] (.lit (.int .u8 (givesI i))):=by
 rcases u8_13 h h2 with rfl|rfl|rfl|rfl|rfl|rfl|rfl|rfl|rfl|rfl|rfl|rfl|rfl
 all_goals
   refine Api.of_fin cfg_ok Tryz.func115 rfl (nt:=29) rfl rfl ?_
   conv=>whnf
   repeat' (first|exact trivial|((first|refine kL ?_|(refine ⟨fun hb=>?_,fun hb=>?_⟩<;>(try simp only [nrm] at hb)<;>(try (first|(exfalso;omega)|contradiction|exact kB hb)))|(refine ⟨⟨by decide,by decide⟩,?_⟩)|(refine isE 116 ?_;refine kA (gives1_ff _ _ _) ?_)|(refine isD 116 ?_;refine kD (gives1_ff _ _ _) ?_)|(refine isE 116 ?_;refine kA (gives1_tt _ _ _) ?_)|(refine isD 116 ?_;refine kD (gives1_tt _ _ _) ?_)|refine kW cfg_ok ?_|refine kC ?_|refine bdA ?_|refine bd2 ?_|refine bdR ?_|refine bdL ?_)<;>(conv=>whnf))|(refine And.intro ?_ ?_;rotate_left;(conv=>whnf);rotate_right))
theorem givesI_hi {i : Int} (h : 13 ≤ i) : givesI i = 0:=by
 unfold givesI
 rw [if_neg (by omega),blockB_hi h,if_neg (by simp)]
theorem givesI_bd (i : Int) (h : 0 ≤ i) (h2 : i ≤ 255) : 0 ≤ givesI i ∧ givesI i ≤ 255:=by
 unfold givesI;split
 · omega
 · split<;>omega
theorem gives_api (i : Int) (h : 0 ≤ i) (h2 : i ≤ 255) : Api Tryz.prog 71 [.lit (.int .u8 i)] (.lit (.int .u8 (givesI i))):=by
 by_cases h3 : i < 13
 · skip
   refine Api.of_fin cfg_ok Tryz.func71 rfl (nt:=4) rfl rfl ?_
   conv=>whnf
   repeat' (first|exact trivial|((first|refine kL ?_|(refine ⟨fun hb=>?_,fun hb=>?_⟩<;>(try simp only [nrm] at hb)<;>(try (first|(exfalso;omega)|contradiction|exact kB hb)))|(refine isE 115 ?_;refine kA (ofG_lo i h h3) ?_)|(refine isD 115 ?_;refine kD (ofG_lo i h h3) ?_)|refine kW cfg_ok ?_|refine kC ?_|refine bdA ?_|refine bd2 ?_|refine bdR ?_|refine bdL ?_)<;>(conv=>whnf))|(refine And.intro ?_ ?_;rotate_left;(conv=>whnf);rotate_right))
 · rw [givesI_hi (by omega)]
   refine Api.of_fin cfg_ok Tryz.func71 rfl (nt:=4) rfl rfl ?_
   conv=>whnf
   repeat' (first|exact trivial|((first|refine kL ?_|(refine ⟨fun hb=>?_,fun hb=>?_⟩<;>(try simp only [nrm] at hb)<;>(try (first|(exfalso;omega)|contradiction|exact kB hb)))|(refine isE 115 ?_;refine kA (ofG_hi i (by omega) h2) ?_)|(refine isD 115 ?_;refine kD (ofG_hi i (by omega) h2) ?_)|refine kW cfg_ok ?_|refine kC ?_|refine bdA ?_|refine bd2 ?_|refine bdR ?_|refine bdL ?_)<;>(conv=>whnf))|(refine And.intro ?_ ?_;rotate_left;(conv=>whnf);rotate_right))
def spawnX (size id : Int) : Int:=if size < 1 ∨ 16 < size ∨ id < 0 then 0 else (id % (8 * size) * 7 + 3) % (8 * size)
theorem spawn_api (size id : Int) (h : id ≤ 9223372036854775807) : Api Tryz.prog 30 [i64 size,i64 id] (.tup [i64 (spawnX size id),i64 0]):=by
 by_cases hs : size < 1 ∨ 16 < size ∨ id < 0
 · rw [show spawnX size id = 0 by unfold spawnX;rw [if_pos hs]]
   refine Api.of_fin cfg_ok Tryz.func30 rfl (nt:=24) rfl rfl ?_
   conv=>whnf
   repeat' (first|exact trivial|((first|((first|refine hT _ _ ?_|refine hE _ _ _ ?_|refine hN _ _ ?_);clear hN hE hT)|refine kL ?_|(refine ⟨fun hb=>?_,fun hb=>?_⟩<;>(try simp only [nrm] at hb)<;>(try (first|(exfalso;omega)|contradiction|exact kB hb)))|refine kW cfg_ok ?_|refine kC ?_|refine bdA ?_|refine bd2 ?_|refine bdR ?_|refine bdL ?_)<;>((try with_reducible refine evCut fun N hN hE hT=>?_);(conv=>whnf)))|(refine And.intro ?_ ?_;rotate_left;(conv=>whnf);rotate_right))
   all_goals first|omega|rfl|trace_state
 · rw [show spawnX size id = (id % (8 * size) * 7 + 3) % (8 * size) by unfold spawnX;rw [if_neg hs]]
   have hm:=Int.emod_nonneg id (show (8 * size) ≠ 0 by omega)
   have hm2:=Int.emod_lt_of_pos id (show 0 < 8 * size by omega)
   refine Api.of_fin cfg_ok Tryz.func30 rfl (nt:=24) rfl rfl ?_
   conv=>whnf
   repeat' (first|exact trivial|((first|((first|refine hT _ _ ?_|refine hE _ _ _ ?_|refine hN _ _ ?_);clear hN hE hT)|refine kL ?_|(refine ⟨fun hb=>?_,fun hb=>?_⟩<;>(try simp only [nrm] at hb)<;>(try (first|(exfalso;omega)|contradiction|exact kB hb)))|refine kW cfg_ok ?_|refine kC ?_|refine bdA ?_|refine bd2 ?_|refine bdR ?_|refine bdL ?_)<;>((try with_reducible refine evCut fun N hN hE hT=>?_);(conv=>whnf)))|(refine And.intro ?_ ?_;rotate_left;(conv=>whnf);rotate_right))
   all_goals first|omega|rfl|trace_state
open Go Go.RowKit Eng
def rngB (lo hi n : Int) : Bool:=decide (lo ≤ n) && decide (n ≤ hi)
def zeroB (n : Int) : Bool:=decide (n = 0)
def rightD (c : Cmd) : Bool:=
 if c.dol = 1 ∨ c.dol = 5 ∨ c.dol = 10 ∨ c.dol = 12 ∨ c.dol = 13 then zeroB c.a && (zeroB c.b && (zeroB c.c && zeroB c.n))
 else if c.dol = 2 then rngB (-1) 1 c.a && (rngB (-1) 1 c.b && (zeroB c.c && zeroB c.n))
 else if c.dol = 3 then rngB 0 127 c.a && (rngB 0 127 c.b && (zeroB c.c && zeroB c.n))
 else if c.dol = 4 then rngB 0 127 c.a && (rngB 0 127 c.b && (rngB 0 7 c.c && zeroB c.n))
 else if c.dol = 6 then zeroB c.a && (zeroB c.b && (rngB 0 7 c.c && rngB 1 1000 c.n))
 else if c.dol = 7 ∨ c.dol = 8 then rngB 0 127 c.a && (rngB 0 127 c.b && (rngB 0 7 c.c && rngB 1 1000 c.n))
 else if c.dol = 9 then zeroB c.a && (zeroB c.b && (rngB 0 1000 c.c && zeroB c.n))
 else if c.dol = 11 then rngB 0 1073741824 c.a && (zeroB c.b && (rngB 0 7 c.c && rngB 1 1000 c.n))
 else false
def spendR (i : Int) : List Slot → Int → List Slot
 | [],_=>[]
 | s :: r,n=>if n ≤ 0 then s :: r else if s.item = i then lessS s (min s.n n) :: spendR i r (n - min s.n n) else s :: spendR i r n
def spendL (l : List Slot) (i n : Int) : List Slot:=(spendR i l.reverse n).reverse
def spendS (l : List Slot) (i n : Int) : List Slot × Int:=
 if bagOk l = false then (l,103) else if n < 1 then (l,111) else if countS l i < n then (l,105) else (spendL l i n,0)
def recipesL : List (List Slot × Slot):=[([⟨3,1⟩],⟨5,4⟩),([⟨5,2⟩],⟨6,4⟩),([⟨5,8⟩],⟨9,1⟩),([⟨6,1⟩,⟨7,1⟩],⟨10,4⟩),([⟨7,1⟩,⟨3,1⟩],⟨8,1⟩),([⟨6,2⟩,⟨8,3⟩],⟨12,1⟩),([⟨2,4⟩,⟨1,1⟩],⟨7,1⟩)]
def recipeN (n : Int) : Option (List Slot × Slot):=if n < 0 then none else recipesL[n.toNat]?
def makeS (l : List Slot) (n : Int) : List Slot × Int:=
 if bagOk l = false then (l,103) else match recipeN n with
   | none=>(l,112)
   | some (wants,makes)=>if wants.any (fun s=>decide (countS l s.item < s.n)) = true then (l,105)
     else if 0 < (putS (wants.foldl (fun b s=>(spendS b s.item s.n).1) l) makes.item makes.n).2 then (l,104)
     else ((putS (wants.foldl (fun b s=>(spendS b s.item s.n).1) l) makes.item makes.n).1,0)
def nearP (p : Player) (x y : Int) : Bool:=decide (max (x - p.x) (-(x - p.x)) ≤ 3) && decide (max (y - p.y) (-(y - p.y)) ≤ 3)
def placeC (w : Wld) (x y : Int) : Chunk:=(chunkW w (x / 8) (y / 8)).1
def placeI (x y : Int) : Int:=y % 8 * 8 + x % 8
def aimE (w : Wld) (p : Player) (x y : Int) : Int:=if withinW w.size x y = false then 102 else if nearP p x y = false then 106 else 0
def keepA (w : Wld) (k : Chunk) (p : Player) : Wld × Int:=if ¬ (putW w k).2 = 0 then (w,(putW w k).2) else setW (putW w k).1 p
def moveA (w : Wld) (p : Player) (c : Cmd) : Wld × Int:=
 if withinW w.size (p.x + c.a) (p.y + c.b) = false then (w,102) else if ¬ (atW w (p.x + c.a) (p.y + c.b)).1 = 0 then (w,107)
 else setW w { p with x:=p.x + c.a,y:=p.y + c.b }
abbrev cellA (k : Chunk) (i : Int) : Int:=elt .u8 k.cells i.toNat
def breakA (w : Wld) (p : Player) (c : Cmd) : Wld × Int:=
 if ¬ aimE w p c.a c.b = 0 then (w,aimE w p c.a c.b) else
 if cellA (placeC w c.a c.b) (placeI c.a c.b) = 0 then (w,107) else
 if ¬ (setC (placeC w c.a c.b) (placeI c.a c.b) 0).2 = 0 then (w,(setC (placeC w c.a c.b) (placeI c.a c.b) 0).2) else
 if 0 < (putS p.bag (givesI (cellA (placeC w c.a c.b) (placeI c.a c.b))) 1).2 then (w,104) else
 keepA w (setC (placeC w c.a c.b) (placeI c.a c.b) 0).1 { p with bag:=(putS p.bag (givesI (cellA (placeC w c.a c.b) (placeI c.a c.b))) 1).1 }
def standsB (c : Cmd) (q : Player) : Bool:=decide (q.x = c.a) && decide (q.y = c.b)
def placeA (w : Wld) (p : Player) (c : Cmd) : Wld × Int:=
 if ¬ aimE w p c.a c.b = 0 then (w,aimE w p c.a c.b) else
 if ¬ (takeS p.bag c.c 1).2.2 = 0 then (w,(takeS p.bag c.c 1).2.2) else
 if blockB (takeS p.bag c.c 1).2.1.item = false then (w,100) else
 if ¬ cellA (placeC w c.a c.b) (placeI c.a c.b) = 0 ∨ w.players.any (standsB c) = true then (w,107) else
 if ¬ (setC (placeC w c.a c.b) (placeI c.a c.b) (takeS p.bag c.c 1).2.1.item).2 = 0 then (w,(setC (placeC w c.a c.b) (placeI c.a c.b) (takeS p.bag c.c 1).2.1.item).2) else
 keepA w (setC (placeC w c.a c.b) (placeI c.a c.b) (takeS p.bag c.c 1).2.1.item).1 { p with bag:=(takeS p.bag c.c 1).1 }
def dropA (w : Wld) (p : Player) (c : Cmd) : Wld × Int:=
 if ¬ (takeS p.bag c.c c.n).2.2 = 0 then (w,(takeS p.bag c.c c.n).2.2) else
 if ¬ (dropC (placeC w p.x p.y) (placeI p.x p.y) (takeS p.bag c.c c.n).2.1).2 = 0 then (w,(dropC (placeC w p.x p.y) (placeI p.x p.y) (takeS p.bag c.c c.n).2.1).2) else
 keepA w (dropC (placeC w p.x p.y) (placeI p.x p.y) (takeS p.bag c.c c.n).2.1).1 { p with bag:=(takeS p.bag c.c c.n).1 }
def pickA (cell : Int) : List Slot → Chunk × List Slot × Bool → Chunk × List Slot × Bool
 | [],a=>a
 | s :: r,(k,b,z)=>pickA cell r (if 0 < (putS b s.item s.n).2 then (dropC k cell ⟨s.item,(putS b s.item s.n).2⟩).1 else k,(putS b s.item s.n).1,z || decide ((putS b s.item s.n).2 < s.n))
def takeA (w : Wld) (p : Player) : Wld × Int:=
 let k:=liftC (placeC w p.x p.y) (placeI p.x p.y)
 if k.2.length = 0 then (w,105) else
 let r:=pickA (placeI p.x p.y) k.2 (k.1,p.bag,false)
 if r.2.2 = false then (w,104) else keepA w r.1 { p with bag:=r.2.1 }
def movedA (fr to_ : List Slot) (a n : Int) : List Slot × List Slot × Int:=
 if ¬ (takeS fr a n).2.2 = 0 then ([],[],(takeS fr a n).2.2) else
 if 0 < (putS to_ (takeS fr a n).2.1.item (takeS fr a n).2.1.n).2 then ([],[],104) else
 ((takeS fr a n).1,(putS to_ (takeS fr a n).2.1.item (takeS fr a n).2.1.n).1,0)
def storeA (w : Wld) (p : Player) (c : Cmd) : Wld × Int:=
 if ¬ aimE w p c.a c.b = 0 then (w,aimE w p c.a c.b) else
 if (boxC (placeC w c.a c.b) (placeI c.a c.b)).2 = false then (w,107) else
 let m:=if c.dol = 7 then movedA p.bag (boxC (placeC w c.a c.b) (placeI c.a c.b)).1 c.c c.n else movedA (boxC (placeC w c.a c.b) (placeI c.a c.b)).1 p.bag c.c c.n
 if ¬ m.2.2 = 0 then (w,m.2.2) else
 let b:=if c.dol = 7 then m.2.1 else m.1
 let q:=if c.dol = 7 then m.1 else m.2.1
 if ¬ (fillC (placeC w c.a c.b) (placeI c.a c.b) b).2 = 0 then (w,(fillC (placeC w c.a c.b) (placeI c.a c.b) b).2) else
 keepA w (fillC (placeC w c.a c.b) (placeI c.a c.b) b).1 { p with bag:=q }
def craftA (w : Wld) (p : Player) (c : Cmd) : Wld × Int:=if ¬ (makeS p.bag c.c).2 = 0 then (w,(makeS p.bag c.c).2) else setW w { p with bag:=(makeS p.bag c.c).1 }
def eatA (w : Wld) (p : Player) : Wld × Int:=if ¬ (spendS p.bag 11 1).2 = 0 then (w,(spendS p.bag 11 1).2) else setW w { p with bag:=(spendS p.bag 11 1).1 }
def dealA (w : Wld) (p : Player) (c : Cmd) : Wld × Int:=
 let wth:=if c.dol = 11 then c.a else p.wth
 if (playerW w wth).2 = false then (w,if c.dol = 11 then 110 else 108) else
 let q:=(playerW w wth).1
 if ¬ c.dol = 13 ∧ nearP p q.x q.y = false then (w,106) else
 let r : Player × Player × Int:=if c.dol = 11 then offerP p q c.c c.n else if c.dol = 12 then ((agreeP p q).1,(agreeP p q).2.1,(agreeP p q).2.2.2) else cancelP p q
 if ¬ r.2.2 = 0 then (w,r.2.2) else
 if ¬ (setW w r.2.1).2 = 0 then (w,(setW w r.2.1).2) else setW (setW w r.2.1).1 r.1
def actA (w : Wld) (p : Player) (c : Cmd) : Wld × Int:=
 if c.dol = 2 then moveA w p c else if c.dol = 3 then breakA w p c else if c.dol = 4 then placeA w p c else if c.dol = 5 then takeA w p else if c.dol = 6 then dropA w p c
 else if c.dol = 7 ∨ c.dol = 8 then storeA w p c else if c.dol = 9 then craftA w p c else if c.dol = 10 then eatA w p else dealA w p c
def applyW (w : Wld) (id : Int) (c : Cmd) : Wld × Int:=
 if rightW w = false then (w,113) else if rightD c = false then (w,109)
 else if (playerW w id).2 = decide (c.dol = 1) then (w,110)
 else if c.dol = 1 then setW w ⟨id,spawnX w.size id,0,newB8,-1,[],false⟩
 else if ¬ (actA w (playerW w id).1 c).2 = 0 then (w,(actA w (playerW w id).1 c).2) else ((actA w (playerW w id).1 c).1,0)
open Go Go.RowKit Eng
open Go Go.RowKit Eng
def sumP (p q : Player) : Nat:=p.bag.length + p.offer.length + q.bag.length + q.offer.length
def pairB (p q : Player) : Bool:=decide (sumP p q ≤ 300) && (!(decide (p.id = q.id)) && (mayB p && mayB q))
def haveP (p q : Player) (i : Int) : Int:=countS p.bag i + countS p.offer i + countS q.bag i + countS q.offer i
theorem mayB_iff {p : Player} : mayB p = true ↔ 0 ≤ p.id ∧ p.id ≤ 1073741824 ∧ p.bag.length = 8 ∧ bagOk p.bag = true ∧ withinW 16 p.x p.y = true ∧
   ((p.wth = -1 ∧ p.offer = [] ∧ p.agrees = false) ∨ (0 ≤ p.wth ∧ p.wth ≤ 1073741824 ∧ ¬ p.wth = p.id ∧ p.offer.length = 8 ∧ bagOk p.offer = true)):=by
 unfold mayB soundB bag8
 simp only [Bool.and_eq_true,decide_eq_true_eq]
 by_cases hw : p.wth = -1
 · rw [if_pos hw]
   simp only [Bool.and_eq_true,decide_eq_true_eq,Bool.not_eq_true']
   constructor
   · rintro ⟨⟨h1,h2,⟨h3,h4⟩,h5,h6⟩,h7⟩
     exact ⟨h1,h2,by omega,h4,h7,.inl ⟨hw,List.eq_nil_of_length_eq_zero (by omega),h6⟩⟩
   · rintro ⟨h1,h2,h3,h4,h7,h|h⟩
     · exact ⟨⟨h1,h2,⟨by omega,h4⟩,by rw [h.2.1];rfl,h.2.2⟩,h7⟩
     · omega
 · rw [if_neg hw]
   simp only [Bool.and_eq_true,decide_eq_true_eq,Bool.not_eq_true',decide_eq_false_iff_not]
   constructor
   · rintro ⟨⟨h1,h2,⟨h3,h4⟩,h5,h6,h8,h9,h10⟩,h7⟩
     exact ⟨h1,h2,by omega,h4,h7,.inr ⟨h5,h6,h8,by omega,h10⟩⟩
   · rintro ⟨h1,h2,h3,h4,h7,h|h⟩
     · exact absurd h.1 hw
     · exact ⟨⟨h1,h2,⟨by omega,h4⟩,h.1,h.2.1,h.2.2.1,by omega,h.2.2.2.2⟩,h7⟩
theorem may_offer {p : Player} (h : mayB p = true) : bagOk p.offer = true ∧ p.offer.length ≤ 8:=by
 obtain ⟨_,_,_,_,_,h|h⟩:=mayB_iff.1 h
 · rw [h.2.1];exact ⟨rfl,by simp⟩
 · exact ⟨h.2.2.2.2,by omega⟩
theorem may_waver {q : Player} (id : Int) (h : mayB q = true) : mayB (waverP q id) = true:=by
 rw [mayB_iff] at h ⊢
 simp only [waverP]
 obtain ⟨h1,h2,h3,h4,h5,h⟩:=h
 refine ⟨h1,h2,h3,h4,h5,?_⟩
 rcases h with h|h
 · exact .inl ⟨h.1,h.2.1,by rw [h.2.2];rfl⟩
 · exact .inr h
theorem stackN_item {i : Int} (h : 1 ≤ stackN i) : 0 ≤ i ∧ i ≤ 255:=by
 unfold stackN at h
 (repeat' split at h)<;>omega
theorem bagOk_okSlot {l : List Slot} (h : bagOk l = true) : ∀ s ∈ l,okSlot s:=by
 intro s hs
 rcases badSlot_false.1 (bagOk_iff.1 h s hs) with h|h
 · exact ⟨by omega,by omega⟩
 · exact stackN_item (by omega)
theorem okP_of {p : Player} (h : mayB p = true) : OkP p:=by
 obtain ⟨_,_,h3,h4,_,_⟩:=mayB_iff.1 h
 have h5:=may_offer h
 exact ⟨bagOk_okSlot h4,bagOk_okSlot h5.1,by omega,by omega⟩
theorem waver_bag (q : Player) (id : Int) : (waverP q id).bag = q.bag ∧ (waverP q id).offer = q.offer ∧ (waverP q id).id = q.id:=⟨rfl,rfl,rfl⟩
theorem newB8_ok : bagOk newB8 = true:=by decide
theorem newB8_count (k : Int) : countS newB8 k = 0:=by
 have : ∀ n : Nat,countS (List.replicate n ⟨0,0⟩) k = 0:=by
   intro n
   induction n with
   | zero=>rfl
   | succ n ih=>rw [List.replicate_succ];simp only [countS,ih,cnt];split<;>rfl
 exact this 8
structure KeptP (p q a b : Player) : Prop where
 ma : mayB a = true
 mb : mayB b = true
 ia : a.id = p.id
 ib : b.id = q.id
 sum : ∀ k,haveP a b k = haveP p q k
theorem KeptP.refl {p q : Player} (hp : mayB p = true) (hq : mayB q = true) : KeptP p q p q:=⟨hp,hq,rfl,rfl,fun _=>rfl⟩
theorem sel_zero (k i : Int) : sel k i 0 = 0:=by unfold sel;split<;>rfl
theorem offer_kept {p q : Player} (hp : mayB p = true) (hq : mayB q = true) (hne : ¬ p.id = q.id) (a n : Int) : KeptP p q (offerP p q a n).1 (offerP p q a n).2.1:=by
 unfold offerP
 generalize hO : (if p.wth = -1 then newB8 else p.offer) = O
 split
 · exact .refl hp hq
 · split
   · exact .refl hp hq
   · rename_i hw
     split
     · exact .refl hp hq
     · rename_i hE
       have hE' : (takeS p.bag a n).2.2 = 0:=by simpa using hE
       obtain ⟨n1,n2,n3,n4,n5,n6,n7,n8⟩:=takeS_n hE'
       split
       · exact .refl hp hq
       · rename_i hr
         rw [n8] at hr ⊢
         dsimp only at hr ⊢
         have ha : a.toNat < p.bag.length:=by omega
         have hc1:=take_count n4 ha n2 n7
         have hb1:=take_bagOk n4 ha n2 n7
         have hp':=mayB_iff.1 hp
         have hq':=mayB_iff.1 hq
         have hOk : bagOk O = true ∧ O.length = 8 ∧ ∀ k,countS O k = countS p.offer k:=by
           rw [← hO]
           split
           · rename_i hm
             refine ⟨newB8_ok,rfl,fun k=>?_⟩
             rcases hp'.2.2.2.2.2 with h|h
             · rw [newB8_count,h.2.1];rfl
             · omega
           · rename_i hm
             rcases hp'.2.2.2.2.2 with h|h
             · exact absurd h.1 hm
             · exact ⟨h.2.2.2.2,h.2.2.2.1,fun _=>rfl⟩
         have hl:=putS_left (l:=O) (i:=(elt .slot p.bag a.toNat).item) (n:=n) (by omega)
         have hc2:=putS_count (l:=O) (i:=(elt .slot p.bag a.toNat).item) (n:=n) (by omega)
         have hb2:=putS_bagOk (i:=(elt .slot p.bag a.toNat).item) (n:=n) hOk.1
         have hl2:=putS_length O (elt .slot p.bag a.toNat).item n
         refine ⟨?_,may_waver _ hq,rfl,rfl,fun k=>?_⟩
         · rw [mayB_iff]
           dsimp only
           refine ⟨hp'.1,hp'.2.1,by rw [List.length_set];exact hp'.2.2.1,hb1,hp'.2.2.2.2.1,.inr ⟨hq'.1,hq'.2.1,fun e=>hne e.symm,by rw [hl2];exact hOk.2.1,hb2⟩⟩
         · have e1:=hc1 k
           have e2:=hc2 k
           rw [show (putS O (elt .slot p.bag a.toNat).item n).2 = 0 by omega,sel_zero] at e2
           have e3:=hOk.2.2 k
           simp only [haveP,waver_bag]
           omega
theorem free_may {p : Player} (hp : mayB p = true) {l : List Slot} (h1 : l.length = 8) (h2 : bagOk l = true) : mayB (freeP p l) = true:=by
 have h:=mayB_iff.1 hp
 rw [mayB_iff]
 exact ⟨h.1,h.2.1,h1,h2,h.2.2.2.2.1,.inl ⟨rfl,rfl,rfl⟩⟩
theorem agree_kept {p q : Player} (hp : mayB p = true) (hq : mayB q = true) (hne : ¬ p.id = q.id) : KeptP p q (agreeP p q).1 (agreeP p q).2.1 ∧
   ((agreeP p q).2.2.1 = true → (agreeP p q).1.wth = -1 ∧ (agreeP p q).2.1.wth = -1 ∧ (agreeP p q).1.offer = [] ∧ (agreeP p q).2.1.offer = [] ∧
     ∀ k,countS (agreeP p q).1.bag k = countS p.bag k + countS q.offer k ∧ countS (agreeP p q).2.1.bag k = countS q.bag k + countS p.offer k) ∧
   ((agreeP p q).2.2.1 = false → (agreeP p q).1.bag = p.bag ∧ (agreeP p q).2.1.bag = q.bag):=by
 have hp':=mayB_iff.1 hp
 have hq':=mayB_iff.1 hq
 unfold agreeP
 split
 · exact ⟨.refl hp hq,by simp,by simp⟩
 · split
   · exact ⟨.refl hp hq,by simp,by simp⟩
   · rename_i hw
     split
     · refine ⟨⟨?_,hq,rfl,rfl,fun _=>rfl⟩,by simp,by simp⟩
       rw [mayB_iff]
       dsimp only
       refine ⟨hp'.1,hp'.2.1,hp'.2.2.1,hp'.2.2.2.1,hp'.2.2.2.2.1,?_⟩
       rcases hp'.2.2.2.2.2 with h|h
       · have:=hq'.1;omega
       · exact .inr h
     · split
       · exact ⟨.refl hp hq,by simp,by simp⟩
       · rename_i hx
         have hx1 : (allS p.bag q.offer).2 = 0:=by omega
         have hx2 : (allS q.bag p.offer).2 = 0:=by omega
         obtain ⟨a1,a2,a3⟩:=allS_props hx1
         obtain ⟨b1,b2,b3⟩:=allS_props hx2
         refine ⟨⟨free_may hp (by rw [a1];exact hp'.2.2.1) a2,free_may hq (by rw [b1];exact hq'.2.2.1) b2,rfl,rfl,fun k=>?_⟩,fun _=>⟨rfl,rfl,rfl,rfl,fun k=>⟨a3 k,b3 k⟩⟩,by simp⟩
         simp only [haveP,freeP,a3,b3,countS];omega
theorem cancel_kept {p q : Player} (hp : mayB p = true) (hq : mayB q = true) : KeptP p q (cancelP p q).1 (cancelP p q).2.1:=by
 have hp':=mayB_iff.1 hp
 unfold cancelP
 split
 · exact .refl hp hq
 · split
   · exact .refl hp hq
   · split
     · exact .refl hp hq
     · rename_i hx
       have hx1 : (allS p.bag p.offer).2 = 0:=by simpa using hx
       obtain ⟨a1,a2,a3⟩:=allS_props hx1
       refine ⟨free_may hp (by rw [a1];exact hp'.2.2.1) a2,may_waver _ hq,rfl,rfl,fun k=>?_⟩
       simp only [haveP,freeP,a3,countS,waver_bag];omega
def pl (id : Int) (s : Slot) : Player:=⟨id,0,0,s :: List.replicate 7 ⟨0,0⟩,-1,[],false⟩
open Go Go.RowKit Eng
def addI (C : List Int) (s : Slot) : List Int:=C.set s.item.toNat (elt .i64 C s.item.toNat + s.n)
def inN (b n : Int) : Prop:=0 ≤ n ∧ n ≤ b
structure CntOk (C : List Int) (b : Int) : Prop where
 len : C.length = 13
 bd : ∀ i,i < 13 → inN b (elt .i64 C i)
def fitS (s : Slot) : Prop:=0 ≤ s.item ∧ s.item ≤ 12 ∧ 0 ≤ s.n ∧ s.n ≤ 16
theorem elt_addI {C : List Int} {s : Slot} (hl : C.length = 13) (hs : fitS s) (i : Nat) : elt .i64 (addI C s) i = if i = s.item.toNat then elt .i64 C i + s.n else elt .i64 C i:=by
 unfold addI
 obtain ⟨h0,h1,_,_⟩:=hs
 by_cases h : i = s.item.toNat
 · rw [if_pos h];subst h
   unfold elt
   rw [List.getElem?_set_self (by omega)];rfl
 · rw [if_neg h]
   unfold elt
   rw [List.getElem?_set_ne (fun e=>h e.symm)]
theorem CntOk.mono {C : List Int} {b c : Int} (h : CntOk C b) (hb : b ≤ c) : CntOk C c:=⟨h.len,fun i hi=>by have:=h.bd i hi;unfold inN at *;omega⟩
theorem CntOk.add {C : List Int} {b : Int} {s : Slot} (h : CntOk C b) (hs : fitS s) : CntOk (addI C s) (b + 16):=by
 refine ⟨by unfold addI;rw [List.length_set];exact h.len,fun i hi=>?_⟩
 rw [elt_addI h.len hs]
 have:=h.bd i hi
 obtain ⟨_,_,h2,h3⟩:=hs
 unfold inN at *
 split<;>omega
theorem CntOk.foldl {l : List Slot} : ∀ {C : List Int} {b : Int},CntOk C b → (∀ s ∈ l,fitS s) → CntOk (l.foldl addI C) (b + 16 * l.length):=by
 induction l with
 | nil=>intro C b h _;simpa using h
 | cons a r ih =>
   intro C b h hs
   have:=ih (h.add (hs a (by simp))) fun s hm=>hs s (List.mem_cons_of_mem _ hm)
   rw [List.foldl_cons]
   refine this.mono ?_
   rw [List.length_cons];omega
open Go Go.RowKit Eng
def slotsP (l : List Player) : List Slot:=l.flatMap fun p=>p.bag ++ p.offer
def slotsC (l : List Chunk) : List Slot:=l.flatMap fun c=>c.heaps.map (·.slot) ++ c.boxes.flatMap (·.bag)
def slotsW (w : Wld) : List Slot:=slotsP w.players ++ slotsC w.chunks
structure FitW (w : Wld) : Prop where
 bag : ∀ p ∈ w.players,∀ s ∈ p.bag,fitS s
 offer : ∀ p ∈ w.players,∀ s ∈ p.offer,fitS s
 heap : ∀ c ∈ w.chunks,∀ h ∈ c.heaps,fitS h.slot
 box : ∀ c ∈ w.chunks,∀ b ∈ c.boxes,∀ s ∈ b.bag,fitS s
theorem mem_slotsP {l : List Player} {s : Slot} (h : s ∈ slotsP l) : ∃ p ∈ l,s ∈ p.bag ∨ s ∈ p.offer:=by
 unfold slotsP at h
 rw [List.mem_flatMap] at h
 obtain ⟨p,hp,hs⟩:=h
 exact ⟨p,hp,List.mem_append.1 hs⟩
theorem mem_slotsC {l : List Chunk} {s : Slot} (h : s ∈ slotsC l) : ∃ c ∈ l,(∃ h ∈ c.heaps,h.slot = s) ∨ ∃ b ∈ c.boxes,s ∈ b.bag:=by
 unfold slotsC at h
 rw [List.mem_flatMap] at h
 obtain ⟨c,hc,hs⟩:=h
 refine ⟨c,hc,(List.mem_append.1 hs).imp ?_ ?_⟩
 · intro h;rw [List.mem_map] at h;exact h
 · intro h;rw [List.mem_flatMap] at h;exact h
theorem FitW.fit {w : Wld} (h : FitW w) : ∀ s ∈ slotsW w,fitS s:=by
 intro s hs
 rcases List.mem_append.1 hs with hs|hs
 · obtain ⟨p,hp,hs⟩:=mem_slotsP hs
   rcases hs with hs|hs
   · exact h.bag p hp s hs
   · exact h.offer p hp s hs
 · obtain ⟨c,hc,hs⟩:=mem_slotsC hs
   rcases hs with ⟨x,hx,rfl⟩|⟨b,hb,hs⟩
   · exact h.heap c hc x hx
   · exact h.box c hc b hb s hs
open Go Go.RowKit Eng
def niceS (s : Slot) : Prop:=0 ≤ s.item ∧ s.item ≤ 12 ∧ 0 ≤ s.n ∧ s.n ≤ stackN s.item
theorem niceS.fit {s : Slot} (h : niceS s) : fitS s:=by have:=stackN_bd s.item;unfold niceS at h;unfold fitS;omega
theorem sound_parts {p : Player} (h : soundB p = true) : 0 ≤ p.id ∧ p.id ≤ 1073741824 ∧ (p.bag.length : Int) = 8 ∧ bagOk p.bag = true ∧ ((p.wth = -1 ∧ p.offer = [] ∧ p.agrees = false) ∨ (0 ≤ p.wth ∧ p.wth ≤ 1073741824 ∧ p.wth ≠ p.id ∧ (p.offer.length : Int) = 8 ∧ bagOk p.offer = true)):=by
 unfold soundB bag8 at h
 by_cases hw : p.wth = -1
 · rw [if_pos hw] at h
   simp only [Bool.and_eq_true,decide_eq_true_eq,Bool.not_eq_true'] at h
   obtain ⟨h1,h2,⟨h3,h4⟩,h5,h6⟩:=h
   exact ⟨h1,h2,h3,h4,.inl ⟨hw,List.length_eq_zero_iff.1 (by omega),h6⟩⟩
 · rw [if_neg hw] at h
   simp only [Bool.and_eq_true,decide_eq_true_eq,Bool.not_eq_true',decide_eq_false_iff_not] at h
   obtain ⟨h1,h2,⟨h3,h4⟩,h5,h6,h7,h8,h9⟩:=h
   exact ⟨h1,h2,h3,h4,.inr ⟨h5,h6,h7,h8,h9⟩⟩
open Go Go.RowKit Eng
theorem itemOk_bd {i : Int} (h : itemOk i = true) : 0 ≤ i ∧ i ≤ 12:=by
 unfold itemOk blockB at h
 simp only [Bool.or_eq_true,beq_iff_eq,Bool.and_eq_true,decide_eq_true_eq] at h
 omega
theorem someB_ok {s : Slot} (h : someB s = true) : okSlot s ∧ 1 ≤ s.n ∧ s.n ≤ 16:=by
 simp only [someB,Bool.and_eq_true,decide_eq_true_eq] at h
 have:=stackN_bd s.item
 exact ⟨stackN_item (by omega),by omega,by omega⟩
theorem right_heap {c : Chunk} (h : rightB c = true) {x : Heap} (hx : x ∈ c.heaps) : someB x.slot = true ∧ 0 ≤ x.cell ∧ x.cell < 64:=by
 have hh:=((right_iff c).1 h).2.2
 rw [List.any_eq_false] at hh
 have h2:=hh x hx
 simp only [badHeap,Bool.or_eq_true,Bool.not_eq_true',not_or,Bool.not_eq_false,Bool.and_eq_true,decide_eq_true_eq] at h2
 exact ⟨h2.2,h2.1⟩
theorem okC_right {c : Chunk} (h : rightB c = true) : OkC c:=by
 refine ⟨fun i hi=>by have:=itemOk_bd ((right_fits h).items i hi);omega,fun x hx=>(someB_ok (right_heap h hx).1).1,fun b hb=>?_,?_,?_,?_⟩
 · obtain ⟨h1,h2⟩:=right_bag h hb
   exact ⟨bagOk_okSlot h2,by rw [h1];unfold big;omega⟩
 · rw [right_len h];unfold big;omega
 · have:=right_heaps h;unfold big;omega
 · have:=right_boxes h;unfold big;omega
theorem okP_sound {p : Player} (h : soundB p = true) : OkP p:=by
 obtain ⟨_,_,h3,h4,h5⟩:=sound_parts h
 refine ⟨bagOk_okSlot h4,?_,by omega,?_⟩
 · rcases h5 with ⟨_,h,_⟩|⟨_,_,_,_,h⟩
   · rw [h];simp
   · exact bagOk_okSlot h
 · rcases h5 with ⟨_,h,_⟩|⟨_,_,_,h,_⟩
   · rw [h];simp
   · omega
theorem okW_rw {w : Wld} (h : RW w) : OkW w:=
 ⟨fun c hc=>okC_right (h.chunks c hc).1,fun c hc=>fitC_right (h.chunks c hc).1,fun p hp=>okP_sound (h.players p hp).1,by have:=h.few;omega,by have:=h.size;omega⟩
theorem cellI_ok (s x y : Int) : itemOk (cellI s x y) = true ∧ cellI s x y ≠ 9:=by
 unfold cellI
 simp only []
 (repeat' split)<;>exact ⟨by decide,by decide⟩
theorem right_gen {s x y : Int} (hx : 0 ≤ x ∧ x < 16) (hy : 0 ≤ y ∧ y < 16) : rightB (genC s x y) = true:=by
 rw [right_iff]
 have hl : (gl s x y 64).length = 64:=gl_len _ _ _ _
 have hm : ∀ i ∈ gl s x y 64,itemOk i = true ∧ i ≠ 9:=by
   intro i hi
   unfold gl at hi
   rw [List.mem_map] at hi
   obtain ⟨j,_,rfl⟩:=hi
   exact cellI_ok _ _ _
 refine ⟨?_,⟨fun i hi=>(hm i hi).1,trivial,by simp [genC],fun j hj=>?_⟩,rfl⟩
 · unfold headB
   rw [show (genC s x y).cells.length = 64 from hl,show (genC s x y).heaps.length = 0 from rfl,show (genC s x y).x = x from rfl,show (genC s x y).y = y from rfl]
   simp only [Bool.and_eq_true,decide_eq_true_eq]
   omega
 · have hj' : j < (gl s x y 64).length:=hj
   have hg : (genC s x y).cells.getD j 0 = (gl s x y 64)[j]:=by
     show (gl s x y 64).getD j 0 = _
     rw [List.getD_eq_getElem?_getD,List.getElem?_eq_getElem hj'];rfl
   rw [hg]
   have:=(hm _ (List.getElem_mem hj')).2
   simp [genC,getB,this]
theorem placeI_bd (x y : Int) : 0 ≤ placeI x y ∧ placeI x y < 64:=by unfold placeI;omega
theorem chunk_right {w : Wld} {x y : Int} (hR : RW w) (hx : 0 ≤ x ∧ x < w.size) (hy : 0 ≤ y ∧ y < w.size) : rightB (chunkW w x y).1 = true:=by
 have hs:=hR.size
 rw [(chunkW_in hR hx hy).1]
 dsimp only
 cases hg : getK keyC w.chunks (keyC (atC x y)) with
 | none=>exact right_gen (by omega) (by omega)
 | some c=>exact (hR.chunks c (getK_mem hg).1).1
theorem place_right {w : Wld} {x y : Int} (hR : RW w) (h : withinW w.size x y = true) : rightB (placeC w x y) = true ∧ (placeC w x y).x = x / 8 ∧ (placeC w x y).y = y / 8:=by
 have h1:=(within_iff hR).1 h
 obtain ⟨_,h3,h4⟩:=chunkW_in hR (x:=x / 8) (y:=y / 8) (by omega) (by omega)
 exact ⟨chunk_right hR (by omega) (by omega),h3,h4⟩
theorem aim_in {w : Wld} {p : Player} {x y : Int} (h : aimE w p x y = 0) : withinW w.size x y = true ∧ nearP p x y = true:=by
 unfold aimE at h
 split at h
 · omega
 · rename_i h1
   split at h
   · omega
   · rename_i h2
     exact ⟨Bool.not_eq_false _ ▸ h1,Bool.not_eq_false _ ▸ h2⟩
theorem rightH {c : Chunk} (h : rightB c = true) {l : List Heap} (hl : l.length ≤ 32) (hb : l.any badHeap = false) : rightB { c with heaps:=l } = true:=by
 obtain ⟨h1,h2,h3⟩:=(right_iff c).1 h
 rw [right_iff]
 refine ⟨?_,h2,hb⟩
 simp only [headB,Bool.and_eq_true,decide_eq_true_eq] at h1 ⊢
 exact ⟨h1.1,h1.2.1,h1.2.2.1,h1.2.2.2.1,h1.2.2.2.2.1,by omega⟩
theorem drop_right {c : Chunk} (h : rightB c = true) {t : Int} {s : Slot} (ht : 0 ≤ t ∧ t < 64) : rightB (dropC c t s).1 = true:=by
 unfold dropC
 rw [if_neg (by rw [h];simp),if_neg (by omega)]
 cases hs : someB s with
 | false=>rw [if_pos rfl];exact h
 | true =>
   rw [if_neg (by simp)]
   by_cases h32 : 32 ≤ c.heaps.length
   · rw [if_pos h32];exact h
   · rw [if_neg h32]
     refine rightH h (by simp;omega) ?_
     rw [List.any_append,((right_iff c).1 h).2.2]
     simp [badHeap,hs,ht]
theorem fill_right {c : Chunk} (h : rightB c = true) (t : Int) (l : List Slot) : rightB (fillC c t l).1 = true:=by
 rw [fillC_right h]
 split
 · exact h
 · rename_i h1
   split
   · exact h
   · rename_i h2
     exact right_upd h (by
       rw [there_iff (right_fits h).up]
       cases hh : (getB c.boxes t).isSome with
       | true=>rfl
       | false=>exact absurd hh h1) (by simpa using h2)
theorem lift_right {c : Chunk} (h : rightB c = true) (t : Int) : rightB (liftC c t).1 = true ∧ ∀ s ∈ (liftC c t).2,someB s = true:=by
 unfold liftC
 rw [if_pos h]
 refine ⟨rightH h (Nat.le_trans (List.length_filter_le _ _) (right_heaps h)) ?_,fun s hs=>?_⟩
 · have hh:=((right_iff c).1 h).2.2
   rw [List.any_eq_false] at hh ⊢
   exact fun x hx=>hh x (List.mem_filter.1 hx).1
 · simp only [hitsH,List.mem_map] at hs
   obtain ⟨x,hx,rfl⟩:=hs
   exact (right_heap h (List.mem_filter.1 hx).1).1
theorem box_right {c : Chunk} (h : rightB c = true) {t : Int} (hb : (boxC c t).2 = true) : (boxC c t).1.length = 6 ∧ bagOk (boxC c t).1 = true:=by
 rw [boxC_get h] at hb ⊢
 dsimp only at hb ⊢
 obtain ⟨s,hs⟩:=Option.isSome_iff_exists.1 hb
 obtain ⟨b,h1,_,h3⟩:=getB_mem hs
 rw [hs]
 show s.length = 6 ∧ bagOk s = true
 rw [← h3]
 exact right_bag h h1
theorem soundB_at {p : Player} (h : soundB p = true) (x y : Int) : soundB { p with x:=x,y:=y } = true:=h
theorem okP_bag {p : Player} (h : OkP p) {l : List Slot} (h1 : ∀ s ∈ l,okSlot s) (h2 : l.length * 16 ≤ 140737488351232) : OkP { p with bag:=l }:=⟨h1,h.offer,h2,h.no⟩
theorem mayB_in {w : Wld} {p : Player} (hR : RW w) (h : soundB p = true) (h2 : withinW w.size p.x p.y = true) : mayB p = true:=by
 have h3:=(within_iff hR).1 h2
 have hs:=hR.size
 unfold mayB withinW
 rw [h,Bool.true_and,wr8_eq (by omega) (by omega)]
 simp only [Bool.and_eq_true,decide_eq_true_eq]
 omega
theorem offer_same {p q : Player} (h : p.id = q.id) (a n : Int) : offerP p q a n = (p,q,110):=by
 unfold offerP dealB;rw [decide_eq_true h];rfl
theorem agree_same {p q : Player} (h : p.id = q.id) : agreeP p q = (p,q,false,110):=by
 unfold agreeP dealB;rw [decide_eq_true h];rfl
theorem offer_may {p q : Player} (hp : mayB p = true) (hq : mayB q = true) (a n : Int) : mayB (offerP p q a n).1 = true ∧ mayB (offerP p q a n).2.1 = true:=by
 by_cases h : p.id = q.id
 · rw [offer_same h];exact ⟨hp,hq⟩
 · have:=offer_kept hp hq h a n;exact ⟨this.ma,this.mb⟩
theorem agree_may {p q : Player} (hp : mayB p = true) (hq : mayB q = true) : mayB (agreeP p q).1 = true ∧ mayB (agreeP p q).2.1 = true:=by
 by_cases h : p.id = q.id
 · rw [agree_same h];exact ⟨hp,hq⟩
 · have:=(agree_kept hp hq h).1;exact ⟨this.ma,this.mb⟩
theorem cancel_may {p q : Player} (hp : mayB p = true) (hq : mayB q = true) : mayB (cancelP p q).1 = true ∧ mayB (cancelP p q).2.1 = true:=by
 have:=cancel_kept hp hq;exact ⟨this.ma,this.mb⟩
open Go Go.RowKit Eng
def sumF {α : Type} (f : α → Int) : List α → Int
 | []=>0
 | a :: r=>f a + sumF f r
def pc (i : Int) (p : Player) : Int:=countS p.bag i + countS p.offer i
def bc (i : Int) (b : Box) : Int:=countS b.bag i
def cc (i : Int) (c : Chunk) : Int:=countS (c.heaps.map (·.slot)) i + sumF (bc i) c.boxes
def tw (i : Int) (w : Wld) : Int:=sumF (pc i) w.players + sumF (cc i) w.chunks
theorem countS_one (s : Slot) (i : Int) : countS [s] i = cnt i s:=by simp [countS]
theorem cc_drop {c : Chunk} (t : Int) (s : Slot) (h : (dropC c t s).2 = 0) (i : Int) : cc i (dropC c t s).1 = cc i c + cnt i s:=by
 unfold dropC at h ⊢
 split at h
 · simp at h
 · rename_i h1
   split at h
   · simp at h
   · rename_i h2
     split at h
     · simp at h
     · rename_i h3
       split at h
       · simp at h
       · rename_i h4
         rw [if_neg h1,if_neg h2,if_neg h3,if_neg h4]
         unfold cc
         simp only [List.map_append,List.map_cons,List.map_nil,countS_app,countS_one]
         omega
theorem plain_eq {seed : Int} {k : Chunk} (hk : rightB k = true) (h : plainW seed k = true) : k = genC seed k.x k.y:=by
 unfold plainW eqI at h
 rw [Bool.and_eq_true,decide_eq_true_eq,decide_eq_true_eq] at h
 have hh : k.heaps = []:=List.length_eq_zero_iff.1 (by omega)
 have hb : k.boxes = []:=by
   refine List.eq_nil_iff_forall_not_mem.2 fun b hb=>?_
   have hf:=right_fits hk
   have h1:=hf.bags b hb
   have hl:=right_len hk
   have h2:=(hf.chest b.cell.toNat (by omega)).2 (by
     rw [show ((0 : Nat) : Int) + (b.cell.toNat : Nat) = b.cell by omega,getB_of_mem hf.up hb];rfl)
   rw [h.2,List.getD_eq_getElem?_getD] at h2
   have hlt : b.cell.toNat < (gl seed k.x k.y 64).length:=by rw [gl_len];omega
   rw [List.getElem?_eq_getElem hlt] at h2
   have hm : (gl seed k.x k.y 64)[b.cell.toNat] ∈ gl seed k.x k.y 64:=List.getElem_mem hlt
   unfold gl at hm
   rw [List.mem_map] at hm
   obtain ⟨j,_,hj⟩:=hm
   have h3:=(cellI_ok seed (k.x * 8 + (j % 8 : Nat)) (k.y * 8 + (j / 8 : Nat))).2
   rw [hj] at h3
   exact h3 h2
 obtain ⟨x,y,cs,hs,bs⟩:=k
 dsimp only at hh hb h
 rw [hh,hb,h.2]
 rfl
theorem chunk_get {w : Wld} {k : Chunk} (hR : RW w) (hk : rightB k = true) (hm : max k.x k.y < w.size) : (chunkW w k.x k.y).1 = match getK keyC w.chunks (keyC k) with|some c=>c|none=>genC w.seed k.x k.y:=by
 have h:=rightB_pos hk
 rw [(chunkW_in hR (x:=k.x) (y:=k.y) (by omega) (by omega)).1]
 rfl
open Go Go.RowKit Eng
theorem countS_rev (i : Int) : ∀ l : List Slot,countS l.reverse i = countS l i
 | []=>rfl
 | s :: r=>by rw [List.reverse_cons,countS_app,countS_rev i r,countS_one];simp only [countS];omega
theorem spendR_len (i : Int) : ∀ (l : List Slot) (n : Int),(spendR i l n).length = l.length
 | [],_=>rfl
 | s :: r,n=>by
   simp only [spendR]
   split
   · rfl
   · split<;>simp only [List.length_cons,spendR_len i r]
theorem less_bad {s : Slot} {m : Int} (h : badSlot s = false) (h0 : 0 ≤ m) (h1 : m ≤ s.n) : badSlot (lessS s m) = false:=by
 have hs:=badSlot_false.1 h
 unfold lessS
 split
 · exact badSlot_false.2 (.inl ⟨rfl,rfl⟩)
 · refine badSlot_false.2 ?_
   rcases hs with hs|hs
   · dsimp only;omega
   · right;dsimp only;omega
theorem spendR_bad (i : Int) : ∀ (l : List Slot) (n : Int),(∀ s ∈ l,badSlot s = false) → ∀ s ∈ spendR i l n,badSlot s = false
 | [],_,_=>by simp [spendR]
 | a :: r,n,h=>by
   simp only [spendR]
   split
   · exact h
   · rename_i hn
     have ha:=h a (by simp)
     have ha2:=badSlot_false.1 ha
     have hst:=(stackN_bd a.item).1
     have ih:=fun m=>spendR_bad i r m fun s hs=>h s (by simp [hs])
     split
     · intro s hs
       rcases List.mem_cons.1 hs with rfl|hs
       · exact less_bad ha (by omega) (by omega)
       · exact ih _ s hs
     · intro s hs
       rcases List.mem_cons.1 hs with rfl|hs
       · exact ha
       · exact ih _ s hs
theorem cnt_less {s : Slot} {m : Int} (h0 : 0 ≤ m) (h1 : m ≤ s.n) (k : Int) : cnt k (lessS s m) + sel k s.item m = cnt k s:=by
 unfold lessS cnt sel
 by_cases hk : ¬ k = 0 ∧ s.item = k
 · rw [if_pos hk,if_pos hk]
   by_cases hm : s.n - m = 0
   · rw [if_pos hm]
     rw [if_neg (fun h=>h.1 h.2.symm)]
     omega
   · rw [if_neg hm,if_pos (by dsimp only;exact hk)]
     dsimp only;omega
 · rw [if_neg hk,if_neg hk]
   by_cases hm : s.n - m = 0
   · rw [if_pos hm,if_neg (fun h=>h.1 h.2.symm)];omega
   · rw [if_neg hm,if_neg (by dsimp only;exact hk)];omega
theorem countS_nn (i : Int) : ∀ l : List Slot,0 ≤ countS l i
 | []=>Int.le_refl _
 | s :: r=>by
   have ih:=countS_nn i r
   have : 0 ≤ cnt i s:=by unfold cnt;split<;>omega
   simp only [countS];omega
theorem spendR_count {i : Int} (hi : ¬ i = 0) : ∀ (l : List Slot) (n : Int),(∀ s ∈ l,0 ≤ s.n) → 0 ≤ n → n ≤ countS l i → ∀ k,countS (spendR i l n) k + sel k i n = countS l k
 | [],n,_,h0,h1,k=>by
   have : n = 0:=by simp only [countS] at h1;omega
   subst this
   simp [spendR,countS,sel_zero]
 | a :: r,n,h,h0,h1,k=>by
   simp only [spendR]
   by_cases hn : n ≤ 0
   · rw [if_pos hn,show n = 0 by omega,sel_zero];omega
   · rw [if_neg hn]
     have ha:=h a (by simp)
     simp only [countS] at h1
     by_cases hai : a.item = i
     · rw [if_pos hai]
       have hc : cnt i a = a.n:=by unfold cnt;rw [if_pos ⟨hi,hai⟩];omega
       rw [hc] at h1
       have hnn:=countS_nn i r
       have ih:=spendR_count hi r (n - min a.n n) (fun s hs=>h s (by simp [hs])) (by omega) (by omega) k
       have hl:=cnt_less (s:=a) (m:=min a.n n) (by omega) (by omega) k
       rw [hai] at hl
       simp only [countS]
       have hs : sel k i n = sel k i (min a.n n) + sel k i (n - min a.n n):=by unfold sel;split<;>omega
       omega
     · rw [if_neg hai]
       have hc : cnt i a = 0:=by unfold cnt;rw [if_neg (fun h=>hai h.2)]
       rw [hc] at h1
       have ih:=spendR_count hi r n (fun s hs=>h s (by simp [hs])) h0 (by omega) k
       simp only [countS]
       omega
theorem spendL_props {l : List Slot} {i n : Int} (hi : ¬ i = 0) (hb : bagOk l = true) (hn : 0 ≤ n) (hc : n ≤ countS l i) :
   bagOk (spendL l i n) = true ∧ (spendL l i n).length = l.length ∧ ∀ k,countS (spendL l i n) k + sel k i n = countS l k:=by
 have hb2:=bagOk_iff.1 hb
 have hsm:=bagOk_small hb
 unfold spendL
 refine ⟨bagOk_iff.2 fun s hs=>?_,by rw [List.length_reverse,spendR_len,List.length_reverse],fun k=>?_⟩
 · rw [List.mem_reverse] at hs
   exact spendR_bad i _ n (fun x hx=>hb2 x (List.mem_reverse.1 hx)) s hs
 · rw [countS_rev,← countS_rev k l]
   exact spendR_count hi _ n (fun s hs=>(hsm s (List.mem_reverse.1 hs)).1) hn (by rw [countS_rev];exact hc) k
theorem spendS_any (l : List Slot) (i n : Int) : (spendS l i n).1.length = l.length ∧ (bagOk l = true → bagOk (spendS l i n).1 = true):=by
 unfold spendS
 split
 · exact ⟨rfl,id⟩
 · rename_i h1
   split
   · exact ⟨rfl,id⟩
   · split
     · exact ⟨rfl,id⟩
     · have hb : bagOk l = true:=by simpa using h1
       refine ⟨by unfold spendL;rw [List.length_reverse,spendR_len,List.length_reverse],fun _=>bagOk_iff.2 fun s hs=>?_⟩
       unfold spendL at hs
       rw [List.mem_reverse] at hs
       exact spendR_bad i _ n (fun x hx=>bagOk_iff.1 hb x (List.mem_reverse.1 hx)) s hs
def takesR (wants : List Slot) (k : Int) : Int:=sumF (fun s : Slot=>sel k s.item s.n) wants
theorem recipe_mem {n : Int} {r : List Slot × Slot} (h : recipeN n = some r) : r ∈ recipesL:=by
 unfold recipeN at h
 split at h
 · cases h
 · exact List.mem_of_getElem? h
theorem recipe_ok {n : Int} {wants : List Slot} {makes : Slot} (h : recipeN n = some (wants,makes)) :
   (∀ s ∈ wants,1 ≤ s.item ∧ s.item ≤ 12 ∧ 1 ≤ s.n ∧ s.n ≤ 16) ∧ 1 ≤ makes.item ∧ makes.item ≤ 12 ∧ 1 ≤ makes.n ∧ makes.n ≤ 16 ∧ wants.length ≤ 2 ∧ ∀ a b,wants = [a,b] → ¬ a.item = b.item:=by
 have hm:=recipe_mem h
 simp only [recipesL,List.mem_cons,List.not_mem_nil,or_false,Prod.mk.injEq] at hm
 rcases hm with ⟨rfl,rfl⟩|⟨rfl,rfl⟩|⟨rfl,rfl⟩|⟨rfl,rfl⟩|⟨rfl,rfl⟩|⟨rfl,rfl⟩|⟨rfl,rfl⟩
 all_goals
   refine ⟨by decide,by decide,by decide,by decide,by decide,by decide,fun a b hab=>?_⟩
   first
     | (simp at hab;done)
     | (simp only [List.cons.injEq,and_true] at hab;obtain ⟨rfl,rfl⟩:=hab;decide)
theorem sel_diff {k i n : Int} (h : ¬ i = k) : sel k i n = 0:=by unfold sel;rw [if_neg (fun x=>h x.2)]
theorem spends_two {l wants : List Slot} (hb : bagOk l = true) (hw : ∀ s ∈ wants,1 ≤ s.item ∧ s.item ≤ 12 ∧ 1 ≤ s.n ∧ s.n ≤ 16) (h2 : wants.length ≤ 2) (hne : ∀ a b,wants = [a,b] → ¬ a.item = b.item)
   (hc : wants.any (fun s=>decide (countS l s.item < s.n)) = false) :
   bagOk (wants.foldl (fun b s=>(spendS b s.item s.n).1) l) = true ∧ (wants.foldl (fun b s=>(spendS b s.item s.n).1) l).length = l.length ∧
     ∀ k,countS (wants.foldl (fun b s=>(spendS b s.item s.n).1) l) k + takesR wants k = countS l k:=by
 rw [List.any_eq_false] at hc
 have hgo : ∀ (b : List Slot) (s : Slot),bagOk b = true → 1 ≤ s.n → s.n ≤ countS b s.item → (spendS b s.item s.n).1 = spendL b s.item s.n:=by
   intro b s h1 h2 h3
   unfold spendS
   rw [if_neg (by rw [h1];simp),if_neg (by omega),if_neg (by omega)]
 match wants,h2 with
 | [],_=>exact ⟨hb,rfl,fun k=>by simp [takesR,sumF]⟩
 | [a],_ =>
   have ha:=hw a (by simp)
   have hca:=hc a (by simp)
   simp only [decide_eq_true_eq] at hca
   obtain ⟨p1,p2,p3⟩:=spendL_props (i:=a.item) (n:=a.n) (by omega) hb (by omega) (by omega)
   simp only [List.foldl_cons,List.foldl_nil]
   rw [hgo l a hb (by omega) (by omega)]
   refine ⟨p1,p2,fun k=>?_⟩
   have:=p3 k
   simp only [takesR,sumF];omega
 | [a,b],_ =>
   have ha:=hw a (by simp)
   have hb':=hw b (by simp)
   have hca:=hc a (by simp)
   have hcb:=hc b (by simp)
   simp only [decide_eq_true_eq] at hca hcb
   have hab:=hne a b rfl
   obtain ⟨p1,p2,p3⟩:=spendL_props (i:=a.item) (n:=a.n) (by omega) hb (by omega) (by omega)
   simp only [List.foldl_cons,List.foldl_nil]
   rw [hgo l a hb (by omega) (by omega)]
   have e:=p3 b.item
   rw [sel_diff hab] at e
   obtain ⟨q1,q2,q3⟩:=spendL_props (i:=b.item) (n:=b.n) (by omega) p1 (by omega) (by omega)
   rw [hgo _ b p1 (by omega) (by omega)]
   refine ⟨q1,by omega,fun k=>?_⟩
   have:=p3 k
   have:=q3 k
   simp only [takesR,sumF];omega
theorem makeS_good {l : List Slot} {n : Int} (h : (makeS l n).2 = 0) : ∃ wants makes,recipeN n = some (wants,makes) ∧ bagOk l = true ∧ bagOk (makeS l n).1 = true ∧ (makeS l n).1.length = l.length ∧
   ∀ k,countS (makeS l n).1 k + takesR wants k = countS l k + sel k makes.item makes.n:=by
 unfold makeS at h ⊢
 split at h
 · simp at h
 · rename_i h1
   have hb : bagOk l = true:=by simpa using h1
   rw [if_neg h1]
   cases hr : recipeN n with
   | none=>rw [hr] at h;simp at h
   | some r =>
     obtain ⟨wants,makes⟩:=r
     rw [hr] at h
     dsimp only at h ⊢
     obtain ⟨r1,r2,r3,r4,r5,r6,r7⟩:=recipe_ok hr
     split at h
     · simp at h
     · rename_i h2
       rw [if_neg h2]
       split at h
       · simp at h
       · rename_i h3
         rw [if_neg h3]
         obtain ⟨p1,p2,p3⟩:=spends_two hb r1 r6 r7 (by simpa using h2)
         refine ⟨wants,makes,rfl,hb,putS_bagOk p1,by rw [putS_length];exact p2,fun k=>?_⟩
         have hl:=putS_left (l:=wants.foldl (fun b s=>(spendS b s.item s.n).1) l) (i:=makes.item) (n:=makes.n) (by omega)
         have hpc:=putS_count (l:=wants.foldl (fun b s=>(spendS b s.item s.n).1) l) (i:=makes.item) (n:=makes.n) (by omega) k
         rw [show (putS (wants.foldl (fun b s=>(spendS b s.item s.n).1) l) makes.item makes.n).2 = 0 by omega,sel_zero] at hpc
         have:=p3 k
         dsimp only
         omega
theorem makeS_any (l : List Slot) (n : Int) (hb : bagOk l = true) : (makeS l n).1.length = l.length ∧ bagOk (makeS l n).1 = true:=by
 by_cases h : (makeS l n).2 = 0
 · obtain ⟨_,_,_,_,h1,h2,_⟩:=makeS_good h
   exact ⟨h2,h1⟩
 · have e : (makeS l n).1 = l:=by
     unfold makeS at h ⊢
     split
     · rfl
     · rename_i h1
       rw [if_neg h1] at h
       cases hr : recipeN n with
       | none=>rfl
       | some r =>
         obtain ⟨wants,makes⟩:=r
         rw [hr] at h
         dsimp only at h ⊢
         split
         · rfl
         · rename_i h2
           rw [if_neg h2] at h
           split
           · rfl
           · rename_i h3
             rw [if_neg h3] at h
             exact absurd rfl h
   rw [e];exact ⟨rfl,hb⟩
open Go Go.RowKit Eng
theorem dropC_xy (c : Chunk) (t : Int) (s : Slot) : (dropC c t s).1.x = c.x ∧ (dropC c t s).1.y = c.y:=by unfold dropC;(repeat' split)<;>exact ⟨rfl,rfl⟩
theorem cnt_sel {k i n : Int} (h : 0 ≤ n) : cnt k ⟨i,n⟩ = sel k i n:=by unfold cnt sel;split<;>first|rfl|(dsimp only;omega)
structure Here (w : Wld) (p : Player) : Prop where
 rw : RW w
 get : getK pid w.players p.id = some p
theorem Here.sound {w : Wld} {p : Player} (h : Here w p) : soundB p = true ∧ withinW w.size p.x p.y = true:=h.rw.players p (getK_mem h.get).1
theorem Here.bag {w : Wld} {p : Player} (h : Here w p) : p.bag.length = 8 ∧ bagOk p.bag = true:=by
 obtain ⟨_,_,h3,h4,_⟩:=sound_parts h.sound.1
 exact ⟨by omega,h4⟩
theorem here_of {w : Wld} (hR : RW w) {id : Int} (h : (playerW w id).2 = true) : Here w (playerW w id).1 ∧ (playerW w id).1.id = id:=by
 have hr:=rightW_iff.2 hR
 have e : playerW w id = match getK pid w.players id with|some p=>(p,true)|none=>(zeroP,false):=by
   unfold playerW;rw [if_neg (by rw [hr];simp)];rfl
 cases hg : getK pid w.players id with
 | none=>rw [hg] at e;rw [e] at h;simp at h
 | some p =>
   rw [hg] at e
   rw [e]
   have hm:=getK_mem hg
   have hid : p.id = id:=hm.2
   exact ⟨⟨hR,by rw [hid];exact hg⟩,hid⟩
theorem pick_law (cell : Int) (hc : 0 ≤ cell ∧ cell < 64) : ∀ (l : List Slot) (K : Chunk) (b : List Slot) (z : Bool),rightB K = true → bagOk b = true → (∀ s ∈ l,someB s = true) → K.heaps.length + l.length ≤ 32 →
   rightB (pickA cell l (K,b,z)).1 = true ∧ bagOk (pickA cell l (K,b,z)).2.1 = true ∧ (pickA cell l (K,b,z)).2.1.length = b.length ∧ (pickA cell l (K,b,z)).1.x = K.x ∧ (pickA cell l (K,b,z)).1.y = K.y ∧
   ∀ k,cc k (pickA cell l (K,b,z)).1 + countS (pickA cell l (K,b,z)).2.1 k = cc k K + countS b k + countS l k
 | [],K,b,z,hK,hb,_,_=>⟨hK,hb,rfl,rfl,rfl,fun k=>by simp [pickA,countS]⟩
 | s :: r,K,b,z,hK,hb,hl,h32=>by
   have hs:=someB_ok (hl s (by simp))
   have hsb:=hl s (by simp)
   simp only [someB,Bool.and_eq_true,decide_eq_true_eq] at hsb
   have hleft:=putS_left (l:=b) (i:=s.item) (n:=s.n) (by omega)
   have hpc:=putS_count (l:=b) (i:=s.item) (n:=s.n) (by omega)
   have hb2:=putS_bagOk (i:=s.item) (n:=s.n) hb
   have hbl:=putS_length b s.item s.n
   simp only [List.length_cons] at h32
   simp only [pickA]
   generalize putS b s.item s.n = P at *
   obtain ⟨P1,P2⟩:=P
   dsimp only at *
   have hsel : ∀ k,cnt k s = sel k s.item s.n:=fun k=>cnt_sel (i:=s.item) (by omega)
   by_cases h0 : 0 < P2
   · rw [if_pos h0]
     have hxy:=dropC_xy K cell ⟨s.item,P2⟩
     have hd:=drop_right hK (t:=cell) (s:=⟨s.item,P2⟩) hc
     have hok : (dropC K cell ⟨s.item,P2⟩) = ({ K with heaps:=K.heaps ++ [⟨cell,⟨s.item,P2⟩⟩] },0):=by
       unfold dropC
       rw [if_neg (by rw [hK];simp),if_neg (by omega),if_neg (by unfold someB;rw [Bool.and_eq_false_iff,decide_eq_false_iff_not,decide_eq_false_iff_not];dsimp only;omega),if_neg (by omega)]
     have hcc:=cc_drop (c:=K) cell ⟨s.item,P2⟩ (by rw [hok])
     obtain ⟨i1,i2,i3,i4,i5,i6⟩:=pick_law cell hc r (dropC K cell ⟨s.item,P2⟩).1 P1 (z || decide (P2 < s.n)) hd hb2 (fun x hx=>hl x (by simp [hx])) (by rw [hok];simp;omega)
     refine ⟨i1,i2,by omega,by rw [i4,hxy.1],by rw [i5,hxy.2],fun k=>?_⟩
     rw [i6 k,hcc k,cnt_sel (by omega)]
     have:=hpc k
     simp only [countS,hsel]
     omega
   · rw [if_neg h0]
     obtain ⟨i1,i2,i3,i4,i5,i6⟩:=pick_law cell hc r K P1 (z || decide (P2 < s.n)) hK hb2 (fun x hx=>hl x (by simp [hx])) (by omega)
     refine ⟨i1,i2,by omega,i4,i5,fun k=>?_⟩
     rw [i6 k]
     have:=hpc k
     rw [show P2 = 0 by omega,sel_zero] at this
     simp only [countS,hsel]
     omega
theorem kept_hits (t : Int) : ∀ l : List Heap,(keptH t l).length + (hitsH t l).length = l.length
 | []=>rfl
 | x :: r=>by
   have ih:=kept_hits t r
   unfold keptH hitsH at ih ⊢
   by_cases hx : x.cell = t
   · rw [List.filter_cons_of_neg (by simp [miss,hx]),List.filter_cons_of_pos (by simp [hit,hx])]
     simp only [List.map_cons,List.length_cons];omega
   · rw [List.filter_cons_of_pos (by simp [miss,hx]),List.filter_cons_of_neg (by simp [hit,hx])]
     simp only [List.length_cons];omega
theorem lift_heaps {c : Chunk} (h : rightB c = true) (t : Int) : (liftC c t).1.heaps.length + (liftC c t).2.length ≤ 32:=by
 have h1:=kept_hits t c.heaps
 have h2:=right_heaps h
 unfold liftC
 rw [if_pos h]
 dsimp only
 omega
open Go Go.RowKit Eng
inductive Eff (w : Wld) (p : Player) (c : Cmd) : Wld → Prop where
 | stay (p' : Player) (hi : p'.id = p.id) (hs : setOk w p') : Eff w p c (withP w (setL w.players p'))
 | keep (k : Chunk) (p' : Player) (x y : Int) (hi : p'.id = p.id) (hx : p'.x = p.x) (hy : p'.y = p.y) (hw : p'.wth = p.wth) (hk : rightB k = true) (hm : max k.x k.y < w.size) (h1 : k.x = x / 8) (h2 : k.y = y / 8) (hn : nearP p x y = true)
     (hs : setOk (withCs w (putL w.seed w.chunks k)) p') : Eff w p c (withP (withCs w (putL w.seed w.chunks k)) (setL w.players p'))
 | deal (p' q q' : Player) (hq : Here w q) (hi : p'.id = p.id) (hj : q'.id = q.id) (hne : ¬ p.id = q.id) (hx : p'.x = p.x) (hy : p'.y = p.y) (hqx : q'.x = q.x) (hqy : q'.y = q.y)
     (hw : q.id = p.wth ∨ (c.dol = 11 ∧ q.id = c.a)) (hkq : ¬ q.wth = p.id → q' = q) (hs : setOk w q') (ht : setOk (withP w (setL w.players q')) p') : Eff w p c (withP w (setL (setL w.players q') p'))
open Go Go.RowKit Eng
theorem key_xy {a b x y : Int} (ha : 0 ≤ a ∧ a < 16) (hx : 0 ≤ x ∧ x < 16) (h : 16 * y + x = 16 * b + a) : x = a ∧ y = b:=by omega
theorem Eff.size {w n : Wld} {p : Player} {c : Cmd} (h : Eff w p c n) : n.size = w.size ∧ n.seed = w.seed ∧ n.tick = w.tick:=by
 cases h<;>exact ⟨rfl,rfl,rfl⟩
def nearS (p : Player) (x y : Int) : Bool:=decide (8 * x ≤ p.x + 3) && (decide (p.x - 3 < 8 * x + 8) && (decide (8 * y ≤ p.y + 3) && decide (p.y - 3 < 8 * y + 8)))
theorem Eff.chunk {w n : Wld} {p : Player} {c : Cmd} (h : Eff w p c n) (hR : RW w) (hn : RW n) {x y : Int} (hx : 0 ≤ x ∧ x < w.size) (hy : 0 ≤ y ∧ y < w.size) (hf : nearS p x y = false) : (chunkW n x y).1 = (chunkW w x y).1:=by
 have hs:=hR.size
 obtain ⟨e1,e2,_⟩:=h.size
 rw [(chunkW_in hR hx hy).1,(chunkW_in hn (by rw [e1];exact hx) (by rw [e1];exact hy)).1,e2]
 cases h with
 | stay p' hi hs=>rfl
 | deal p' q q'=>rfl
 | keep k p' X Y hi hX hY hw hk hm h1 h2 hN hs =>
   show (match getK keyC (putL w.seed w.chunks k) (keyC (atC x y)) with|some c=>c|none=>genC w.seed x y,true).1 = _
   have hne : ¬ keyC (atC x y) = keyC k:=by
     intro he
     have hkp:=rightB_pos hk
     have he' : 16 * y + x = 16 * k.y + k.x:=he
     obtain ⟨rfl,rfl⟩:=key_xy (a:=k.x) (b:=k.y) (by omega) (by omega) he'
     unfold nearS at hf
     unfold nearP at hN
     simp only [Bool.and_eq_true,Bool.and_eq_false_iff,decide_eq_true_eq,decide_eq_false_iff_not] at hf hN
     omega
   rw [getK_putL hR.rc,if_neg hne]
   rfl
theorem playerW_get {w : Wld} (hR : RW w) (id : Int) : playerW w id = match getK pid w.players id with|some p=>(p,true)|none=>(zeroP,false):=by
 unfold playerW;rw [if_neg (by rw [rightW_iff.2 hR];simp)];rfl
theorem Eff.player {w n : Wld} {p q : Player} {c : Cmd} (h : Eff w p c n) (hR : RW w) (hn : RW n) (hq : q ∈ w.players) :
   ∃ r,playerW n q.id = (r,true) ∧ (¬ q.id = p.id → (r.x = q.x ∧ r.y = q.y) ∧ (¬ q.wth = p.id → r = q) ∧ (¬ q.id = p.wth → ¬ (c.dol = 11 ∧ c.a = q.id) → r = q)):=by
 have hg:=getK_of_mem (key:=pid) hR.rp hq
 rw [playerW_get hn]
 cases h with
 | stay p' hi hs =>
   rw [show (withP w (setL w.players p')).players = setL w.players p' from rfl,getK_setL hR.rp]
   by_cases he : q.id = p'.id
   · rw [if_pos he];exact ⟨p',rfl,fun hne=>absurd (he.trans hi) hne⟩
   · rw [if_neg he,show getK pid w.players q.id = some q from hg];exact ⟨q,rfl,fun _=>⟨⟨rfl,rfl⟩,fun _=>rfl,fun _ _=>rfl⟩⟩
 | keep k p' X Y hi hX hY hw hk hm h1 h2 hN hs =>
   rw [show (withP (withCs w (putL w.seed w.chunks k)) (setL w.players p')).players = setL w.players p' from rfl,getK_setL hR.rp]
   by_cases he : q.id = p'.id
   · rw [if_pos he];exact ⟨p',rfl,fun hne=>absurd (he.trans hi) hne⟩
   · rw [if_neg he,show getK pid w.players q.id = some q from hg];exact ⟨q,rfl,fun _=>⟨⟨rfl,rfl⟩,fun _=>rfl,fun _ _=>rfl⟩⟩
 | deal p' z z' hz hi hj hne hx hy hzx hzy hw hkq hs ht =>
   rw [show (withP w (setL (setL w.players z') p')).players = setL (setL w.players z') p' from rfl,getK_setL (risesK_setL hR.rp),getK_setL hR.rp]
   by_cases he : q.id = p'.id
   · rw [if_pos he];exact ⟨p',rfl,fun hne=>absurd (he.trans hi) hne⟩
   · rw [if_neg he]
     by_cases hf : q.id = z'.id
     · rw [if_pos hf]
       have hqz : q = z:=by
         have h2:=hz.get
         rw [← hj,← hf,show getK pid w.players q.id = some q from hg] at h2
         exact Option.some.inj h2
       subst hqz
       refine ⟨z',rfl,fun _=>⟨⟨hzx,hzy⟩,hkq,fun h3 h4=>?_⟩⟩
       rcases hw with hw|hw
       · exact absurd hw h3
       · exact absurd ⟨hw.1,hw.2.symm⟩ h4
     · rw [if_neg hf,show getK pid w.players q.id = some q from hg];exact ⟨q,rfl,fun _=>⟨⟨rfl,rfl⟩,fun _=>rfl,fun _ _=>rfl⟩⟩
open Go Go.RowKit Eng
def mayK (k n : Int) : Bool:=if k = 109 then rngB (-1) 1 n else if k = 112 then rngB 0 127 n else if k = 105 then rngB 0 1073741824 n else if k = 115 then rngB 0 7 n else if k = 110 then rngB 1 1000 n else if k = 114 then rngB 0 1000 n else rngB 0 0 n
theorem cmay_api (k n : Int) : Api Tryz.prog 64 [.lit (.int .u8 k),i64 n] (bol (mayK k n)):=by
 unfold mayK rngB
 refine Api.of_fin cfg_ok Tryz.func64 rfl (nt:=26) rfl rfl ?_
 ((try with_reducible refine evCut fun N hN hE hT=>?_);(conv=>whnf))
 repeat' (first|exact trivial|((first|((first|refine hT _ _ ?_|refine hE _ _ _ ?_|refine hN _ _ ?_);clear hN hE hT)|refine kL ?_|(refine ⟨fun hb=>?_,fun hb=>?_⟩<;>(try simp only [nrm] at hb)<;>(try (first|(exfalso;omega)|contradiction|exact kB hb)))|refine kW cfg_ok ?_|refine kC ?_|refine bdA ?_|refine bd2 ?_|refine bdR ?_|refine bdL ?_)<;>((try with_reducible refine evCut fun N hN hE hT=>?_);(conv=>whnf)))|(refine And.intro ?_ ?_;rotate_left;(conv=>whnf);rotate_right))
 all_goals first|(refine congrArg Value.bool ?_;simp_all;done)|(refine congrArg Value.bool ?_;simp_all;omega)|trace_state
open Go Go.RowKit Eng
def lettersL (d : Int) : List UInt8:=if d = 1 ∨ d = 5 ∨ d = 10 ∨ d = 12 ∨ d = 13 then [45,45,45,45] else if d = 2 then [109,109,45,45] else if d = 3 then [112,112,45,45] else if d = 4 then [112,112,115,45]
 else if d = 6 then [45,45,115,110] else if d = 7 ∨ d = 8 then [112,112,115,110] else if d = 9 then [45,45,114,45] else if d = 11 then [105,45,115,110] else []
theorem do_14 {d : Int} (h0 : 0 ≤ d) (h : d < 14) : d = 0 ∨ d = 1 ∨ d = 2 ∨ d = 3 ∨ d = 4 ∨ d = 5 ∨ d = 6 ∨ d = 7 ∨ d = 8 ∨ d = 9 ∨ d = 10 ∨ d = 11 ∨ d = 12 ∨ d = 13:=by omega
theorem shape_hi (d : Int) (h0 : 14 ≤ d) (h1 : d ≤ 255) : Api Tryz.prog 63 [.lit (.int .u8 d)] (.lit (.string ⟨#[]⟩)):=by
 refine Api.of_fin cfg_ok Tryz.func63 rfl (nt:=10) rfl rfl ?_
 ((try with_reducible refine evCut fun N hN hE hT=>?_);(conv=>whnf))
 repeat' (first|exact trivial|((first|((first|refine hT _ _ ?_|refine hE _ _ _ ?_|refine hN _ _ ?_);clear hN hE hT)|refine kL ?_|(refine ⟨fun hb=>?_,fun hb=>?_⟩<;>(try simp only [nrm] at hb)<;>(try (first|(exfalso;omega)|contradiction|exact kB hb)))|refine kW cfg_ok ?_|refine kC ?_|refine bdA ?_|refine bd2 ?_|refine bdR ?_|refine bdL ?_)<;>((try with_reducible refine evCut fun N hN hE hT=>?_);(conv=>whnf)))|(refine And.intro ?_ ?_;rotate_left;(conv=>whnf);rotate_right))
 all_goals first|rfl|trace_state
theorem shape_lo (d : Int) (h0 : 0 ≤ d) (h1 : d < 14) : Api Tryz.prog 63 [.lit (.int .u8 d)] (.lit (.string ⟨(lettersL d).toArray⟩)):=by
 rcases do_14 h0 h1 with rfl|rfl|rfl|rfl|rfl|rfl|rfl|rfl|rfl|rfl|rfl|rfl|rfl|rfl
 all_goals
   refine Api.of_fin cfg_ok Tryz.func63 rfl (nt:=10) rfl rfl ?_
   ((try with_reducible refine evCut fun N hN hE hT=>?_);(conv=>whnf))
   repeat' (first|exact trivial|((first|((first|refine hT _ _ ?_|refine hE _ _ _ ?_|refine hN _ _ ?_);clear hN hE hT)|refine kL ?_|(refine ⟨fun hb=>?_,fun hb=>?_⟩<;>(try simp only [nrm] at hb)<;>(try (first|(exfalso;omega)|contradiction|exact kB hb)))|(refine ⟨⟨by decide,by decide⟩,?_⟩)|refine kW cfg_ok ?_|refine kC ?_|refine bdA ?_|refine bd2 ?_|refine bdR ?_|refine bdL ?_)<;>((try with_reducible refine evCut fun N hN hE hT=>?_);(conv=>whnf)))|(refine And.intro ?_ ?_;rotate_left;(conv=>whnf);rotate_right))
   all_goals first|rfl|trace_state
open Go Go.RowKit Eng
abbrev cmdV (c : Cmd) : AV:=.agg [.lit (.int .u8 c.dol),i64 c.a,i64 c.b,i64 c.c,i64 c.n]
abbrev actC (w : Wld) (p : Player) (c : Cmd) : List AV:=[i64 w.size,.lit (.int .u64 w.seed),i64 w.tick,.vec .chunk w.chunks,.vec .player w.players,i64 p.id,i64 p.x,i64 p.y,.vec .slot p.bag,i64 p.wth,.vec .slot p.offer,bol p.agrees,.lit (.int .u8 c.dol),i64 c.a,i64 c.b,i64 c.c,i64 c.n]
abbrev actM (w : Wld) (p : Player) (c : Cmd) : Mem:=[(0,.box (actC w p c))]
def offB (n : Int) : Bool:=decide (3 < max n (-n))
theorem near1_api (n : Int) (h : -1000000 ≤ n ∧ n ≤ 1000000) : Api Tryz.prog 123 [i64 n] (bol (offB n)):=by
 refine Api.of_fin cfg_ok Tryz.func123 rfl (nt:=7) rfl rfl ?_
 conv=>whnf
 repeat' (first|exact trivial|((first|refine kL ?_|(refine ⟨fun hb=>?_,fun hb=>?_⟩<;>(try simp only [nrm] at hb)<;>(try (first|(exfalso;omega)|contradiction|exact kB hb)))|refine kW cfg_ok ?_|refine kC ?_|refine bdA ?_|refine bd2 ?_|refine bdR ?_|refine bdL ?_)<;>(conv=>whnf))|(refine And.intro ?_ ?_;rotate_left;(conv=>whnf);rotate_right))
 all_goals (unfold offB;rw [Int.zero_sub])
theorem near_ev (w : Wld) (p : Player) (c : Cmd) (x y : Int) (hx : 0 ≤ x ∧ x ≤ 1000) (hy : 0 ≤ y ∧ y ≤ 1000) (hpx : 0 ≤ p.x ∧ p.x ≤ 1000) (hpy : 0 ≤ p.y ∧ p.y ≤ 1000) : Ev1 Tryz.prog 83 [.ptr 0 0,i64 x,i64 y] (actM w p c) (bol (nearP p x y)) (actM w p c):=by
 have h1:=near1_api (x - p.x) (by omega)
 have h2:=near1_api (y - p.y) (by omega)
 have hs : nearP p x y = (!(offB (x - p.x)) && !(offB (y - p.y))):=by
   rw [Bool.eq_iff_iff];unfold nearP offB
   simp only [Bool.and_eq_true,decide_eq_true_eq,Bool.not_eq_true',decide_eq_false_iff_not];omega
 rw [hs]
 cases e1 : offB (x - p.x)
 all_goals
   rw [e1] at h1
   cases e2 : offB (y - p.y)
   all_goals
     rw [e2] at h2
     refine Ev1.of_fin cfg_ok Tryz.func83 rfl (nt:=27) rfl rfl rfl ?_
     ((try with_reducible refine evCut fun N hN hE hT=>?_);(conv=>whnf))
     repeat' (first|exact trivial|((first|((first|refine hT _ _ ?_|refine hE _ _ _ ?_|refine hN _ _ ?_);clear hN hE hT)|refine kL ?_|(refine ⟨fun hb=>?_,fun hb=>?_⟩<;>(try simp only [nrm] at hb)<;>(try (first|(exfalso;omega)|contradiction|exact kB hb)))|refine kA h1 ?_|refine kD h1 ?_|refine kA h2 ?_|refine kD h2 ?_|refine kW cfg_ok ?_|refine kC ?_|refine bdA ?_|refine bd2 ?_|refine bdR ?_|refine bdL ?_)<;>((try with_reducible refine evCut fun N hN hE hT=>?_);(conv=>whnf)))|(refine And.intro ?_ ?_;rotate_left;(conv=>whnf);rotate_right))
     all_goals first|rfl|omega|trace_state
theorem there_ev (w : Wld) (p : Player) (c : Cmd) (x y : Int) (hs : 1 ≤ w.size ∧ w.size ≤ 16) : Ev1 Tryz.prog 65 [.ptr 0 0,i64 x,i64 y] (actM w p c) (bol (withinW w.size x y)) (actM w p c):=by
 have h8 : wr8 w.size = 8 * w.size:=wr8_eq (by omega) (by omega)
 by_cases h : 0 ≤ min x y ∧ max x y < 8 * w.size
 · rw [show withinW w.size x y = true by unfold withinW;rw [h8,decide_eq_true h.1,decide_eq_true h.2];rfl]
   refine Ev1.of_fin cfg_ok Tryz.func65 rfl (nt:=20) rfl rfl rfl ?_
   ((try with_reducible refine evCut fun N hN hE hT=>?_);(conv=>whnf))
   repeat' (first|exact trivial|((first|((first|refine hT _ _ ?_|refine hE _ _ _ ?_|refine hN _ _ ?_);clear hN hE hT)|refine kL ?_|(refine ⟨fun hb=>?_,fun hb=>?_⟩<;>(try simp only [nrm] at hb)<;>(try (first|(exfalso;omega)|contradiction|exact kB hb)))|refine kW cfg_ok ?_|refine kC ?_|refine bdA ?_|refine bd2 ?_|refine bdR ?_|refine bdL ?_)<;>((try with_reducible refine evCut fun N hN hE hT=>?_);(conv=>whnf)))|(refine And.intro ?_ ?_;rotate_left;(conv=>whnf);rotate_right))
   all_goals first|omega|(refine congrArg Value.bool ?_;exact decide_eq_true h.2)|rfl|trace_state
 · rw [show withinW w.size x y = false by unfold withinW;rw [h8,Bool.and_eq_false_iff,decide_eq_false_iff_not,decide_eq_false_iff_not];omega]
   refine Ev1.of_fin cfg_ok Tryz.func65 rfl (nt:=20) rfl rfl rfl ?_
   ((try with_reducible refine evCut fun N hN hE hT=>?_);(conv=>whnf))
   repeat' (first|exact trivial|((first|((first|refine hT _ _ ?_|refine hE _ _ _ ?_|refine hN _ _ ?_);clear hN hE hT)|refine kL ?_|(refine ⟨fun hb=>?_,fun hb=>?_⟩<;>(try simp only [nrm] at hb)<;>(try (first|(exfalso;omega)|contradiction|exact kB hb)))|refine kW cfg_ok ?_|refine kC ?_|refine bdA ?_|refine bd2 ?_|refine bdR ?_|refine bdL ?_)<;>((try with_reducible refine evCut fun N hN hE hT=>?_);(conv=>whnf)))|(refine And.intro ?_ ?_;rotate_left;(conv=>whnf);rotate_right))
   all_goals first|omega|(refine congrArg Value.bool ?_;exact decide_eq_false (by omega))|rfl|trace_state
theorem place_ev (w : Wld) (p : Player) (c : Cmd) (x y : Int) (hw : OkW w) (hx : 0 ≤ x ∧ x ≤ 1000) (hy : 0 ≤ y ∧ y ≤ 1000) : Ev1 Tryz.prog 75 [.ptr 0 0,i64 x,i64 y] (actM w p c) (.tup [chunkV (placeC w x y),i64 (placeI x y)]) (actM w p c):=by
 have hch:=wchunk_api w (x / 8) (y / 8) hw
 unfold placeC placeI
 generalize chunkW w (x / 8) (y / 8) = K at *
 refine Ev1.of_fin cfg_ok Tryz.func75 rfl (nt:=26) rfl rfl rfl ?_
 ((try with_reducible refine evCut fun N hN hE hT=>?_);(conv=>whnf))
 repeat' (first|exact trivial|((first|((first|refine hT _ _ ?_|refine hE _ _ _ ?_|refine hN _ _ ?_);clear hN hE hT)|refine kL ?_|(refine ⟨fun hb=>?_,fun hb=>?_⟩<;>(try simp only [nrm] at hb)<;>(try (first|(exfalso;omega)|contradiction|exact kB hb)))|refine kA hch ?_|refine kD hch ?_|refine kW cfg_ok ?_|refine kC ?_|refine bdA ?_|refine bd2 ?_|refine bdR ?_|refine bdL ?_)<;>((try with_reducible refine evCut fun N hN hE hT=>?_);(conv=>whnf)))|(refine And.intro ?_ ?_;rotate_left;(conv=>whnf);rotate_right))
 all_goals first|rfl|omega|trace_state
end Go.Proofs.YtchdgiooggdfeaaGreat
