/- homesteadlaw16.Have, rules.Deltas; what is together changes by the deltas. -/
import Derived.Test.YtkojlembanldcaaGreatGi
import Derived.Test.YtkojlembanldcaaGreatGj
set_option linter.unusedSimpArgs false
set_option linter.unusedVariables false
set_option maxRecDepth 100000
set_option maxHeartbeats 4000000
namespace Go.Proofs.YtkojlembanldcaaGreat
open Go Go.RowKit Eng
theorem rightGo_len : ∀ (l : List Int) (k : Nat) (bs rest : List Box),rightGo l k bs = some rest → bs.length ≤ l.length + rest.length
 | [],_,bs,rest,h=>by unfold rightGo at h;rw [Option.some.inj h];omega
 | i :: r,k,bs,rest,h=>by
   unfold rightGo at h
   split at h
   · split at h
     · cases bs with
       | nil=>cases h
       | cons c t =>
         simp only at h
         split at h
         · have:=rightGo_len r (k + 1) t rest h
           simp only [List.length_cons];omega
         · cases h
     · have:=rightGo_len r (k + 1) bs rest h
       simp only [List.length_cons];omega
   · cases h
theorem rightC_len {c : Chunk} (h : rightB c = true) : c.cells.length = 64 ∧ c.heaps.length ≤ 32 ∧ c.boxes.length ≤ 64:=by
 have h3:=(right_parts h).2.2
 unfold headB at h3
 simp only [Bool.and_eq_true,decide_eq_true_eq] at h3
 obtain ⟨_,_,_,_,h4,h5⟩:=h3
 refine ⟨by omega,by omega,?_⟩
 unfold rightB at h
 rw [Bool.and_eq_true] at h
 obtain ⟨_,h2⟩:=h
 split at h2
 · rename_i hg
   have:=rightGo_len _ _ _ _ hg
   simp only [List.length_nil] at this;omega
 · cases h2
theorem sum_le {α : Type} {f : α → Nat} {m : Nat} : ∀ {l : List α},(∀ x ∈ l,f x ≤ m) → (l.map f).sum ≤ l.length * m
 | [],_=>by simp
 | a :: r,h=>by
   have h1:=h a (by simp)
   have h2:=sum_le (l:=r) fun x hx=>h x (List.mem_cons_of_mem _ hx)
   rw [List.map_cons,List.sum_cons,List.length_cons,Nat.succ_mul]
   omega
theorem slots_bd {w : Wld} (h : RW w) (hw : OkW w) : (slotsW w).length ≤ 18014398509481984:=by
 rw [slotsN_eq h]
 unfold slotsN
 have h1:=sum_le (l:=w.players) (f:=fun p=>p.bag.length + p.offer.length) (m:=16) fun p hp=>by
   obtain ⟨_,_,h3,_,h5⟩:=sound_parts (h.players p hp).1
   rcases h5 with ⟨_,h5,_⟩|⟨_,_,_,h5,_⟩
   · rw [h5];simp;omega
   · omega
 have h2:=sum_le (l:=w.chunks) (f:=fun c=>c.heaps.length + 6 * c.boxes.length) (m:=416) fun c hc=>by
   have:=rightC_len (h.chunks c hc).1
   omega
 have h3:=hw.nc
 have h4:=hw.np
 omega
theorem sameInts_api (a b : List (El .i64)) (ha : a.length ≤ 4000000000000000000) : Api Tryz.prog 25 [.vec .i64 a,.vec .i64 b] (bol (eqI a b)):=by
 by_cases hl : a.length = b.length
 · skip
   refine Api.of_fin cfg_ok Tryz.func25 rfl (nt:=24) rfl rfl ?_
   conv=>whnf
   repeat' (first|exact trivial|((first|refine kL ?_|(refine ⟨fun hb=>?_,fun hb=>?_⟩<;>(try simp only [nrm] at hb)<;>(try (first|(exfalso;omega)|contradiction|exact kB hb)))|refine kW cfg_ok ?_|refine kC ?_|refine bdA ?_|refine bd2 ?_|refine bdR ?_|refine bdL ?_)<;>(conv=>whnf))|(refine And.intro ?_ ?_;rotate_left;(conv=>whnf);rotate_right))
   all_goals try omega
   refine Runs.loopS cfg_ok (σ:=Nat) [0,1,5] (fun k=>[.vec .i64 a,.vec .i64 b,i64 k]) (fun _=>[]) (fun k=>k ≤ a.length ∧ a.take k = b.take k) (fun k=>a.length - k) 0 ⟨by omega,by rw [List.take_zero,List.take_zero]⟩ ?_ ?_
   · conv=>whnf
     repeat' (first|exact trivial|((first|refine kL ?_|(refine ⟨fun hb=>?_,fun hb=>?_⟩<;>(try simp only [nrm] at hb)<;>(try (first|(exfalso;omega)|contradiction|exact kB hb)))|refine kW cfg_ok ?_|refine kC ?_|refine bdA ?_|refine bd2 ?_|refine bdR ?_|refine bdL ?_)<;>(conv=>whnf))|(refine And.intro ?_ ?_;rotate_left;(conv=>whnf);rotate_right))
   · rintro k ⟨hk,ht⟩
     by_cases hlt : k < a.length
     · have ea:=elt_get .i64 a k hlt
       have eb:=elt_get .i64 b k (by omega)
       conv=>whnf
       repeat' (first|exact trivial|((first|refine kL ?_|(refine ⟨fun hb=>?_,fun hb=>?_⟩<;>(try simp only [nrm] at hb)<;>(try (first|(exfalso;omega)|contradiction|exact kB hb)))|refine kW cfg_ok ?_|refine kC ?_|refine bdA ?_|refine bd2 ?_|refine bdR ?_|refine bdL ?_)<;>(conv=>whnf))|(refine And.intro ?_ ?_;rotate_left;(conv=>whnf);rotate_right))
       · rename_i hb
         refine congrArg Value.bool ?_
         unfold eqI
         rw [decide_eq_false]
         intro he
         subst he
         exact hb rfl
       · rename_i hb
         refine .to (k + 1) ⟨by omega,?_⟩ (by omega) ?_
         · rw [List.take_add_one,List.take_add_one,ht,ea,eb]
           have hb2 : elt .i64 a k = elt .i64 b k:=hb
           rw [hb2]
         conv=>whnf
         repeat' (first|exact trivial|((first|refine kL ?_|(refine ⟨fun hb=>?_,fun hb=>?_⟩<;>(try simp only [nrm] at hb)<;>(try (first|(exfalso;omega)|contradiction|exact kB hb)))|refine kW cfg_ok ?_|refine kC ?_|refine bdA ?_|refine bd2 ?_|refine bdR ?_|refine bdL ?_)<;>(conv=>whnf))|(refine And.intro ?_ ?_;rotate_left;(conv=>whnf);rotate_right))
     · obtain rfl : k = a.length:=by omega
       conv=>whnf
       repeat' (first|exact trivial|((first|refine kL ?_|(refine ⟨fun hb=>?_,fun hb=>?_⟩<;>(try simp only [nrm] at hb)<;>(try (first|(exfalso;omega)|contradiction|exact kB hb)))|refine kW cfg_ok ?_|refine kC ?_|refine bdA ?_|refine bd2 ?_|refine bdR ?_|refine bdL ?_)<;>(conv=>whnf))|(refine And.intro ?_ ?_;rotate_left;(conv=>whnf);rotate_right))
       refine congrArg Value.bool ?_
       unfold eqI
       rw [decide_eq_true]
       rw [List.take_length,hl,List.take_length] at ht
       exact ht
 · have : eqI a b = false:=by unfold eqI;rw [decide_eq_false];intro h;exact hl (by rw [h])
   rw [this]
   refine Api.of_fin cfg_ok Tryz.func25 rfl (nt:=24) rfl rfl ?_
   conv=>whnf
   repeat' (first|exact trivial|((first|refine kL ?_|(refine ⟨fun hb=>?_,fun hb=>?_⟩<;>(try simp only [nrm] at hb)<;>(try (first|(exfalso;omega)|contradiction|exact kB hb)))|refine kW cfg_ok ?_|refine kC ?_|refine bdA ?_|refine bd2 ?_|refine bdR ?_|refine bdL ?_)<;>(conv=>whnf))|(refine And.intro ?_ ?_;rotate_left;(conv=>whnf);rotate_right))
   all_goals first|rfl|omega|trace_state
open Go Go.RowKit Eng
def hv (w : Wld) (i : Nat) : List Int:=(List.range i).map (fun k : Nat=>tw (k : Int) w) ++ List.replicate (13 - i) 0
def haveW (w : Wld) : List Int:=hv w 13
theorem hv_len (w : Wld) {i : Nat} (h : i ≤ 13) : (hv w i).length = 13:=by unfold hv;simp;omega
theorem hv_zero (w : Wld) : hv w 0 = zeros13:=rfl
theorem hv_next (w : Wld) {i : Nat} (h : i < 13) : (hv w i).set i (tw i w) = hv w (i + 1):=by
 unfold hv
 rw [List.range_succ,List.map_append,List.set_append_right _ _ (by simp)]
 simp only [List.length_map,List.length_range,Nat.sub_self,List.map_cons,List.map_nil,List.append_assoc]
 rw [show 13 - i = (13 - (i + 1)) + 1 by omega,List.replicate_succ];rfl
theorem hv_at (w : Wld) {i : Nat} (h : i < 13) (x : Int) : elt .i64 ((hv w i).set i x) i = x:=by
 unfold elt
 rw [List.getElem?_set_self (by rw [hv_len w (by omega)];exact h)];rfl
theorem hv_self (w : Wld) {i : Nat} (h : i < 13) : (hv w i).set i 0 = hv w i:=by
 unfold hv
 rw [List.set_append_right _ _ (by simp)]
 simp only [List.length_map,List.length_range,Nat.sub_self]
 rw [show 13 - i = (13 - (i + 1)) + 1 by omega,List.replicate_succ];rfl
theorem small_slots {w : Wld} (hR : RW w) : ∀ s ∈ slotsW w,s.n ≤ 16:=fun s hs=>by
 have:=nice_world hR (okW_rw hR) s hs
 have:=stackN_bd s.item
 unfold niceS at *;omega
theorem pre_bd {w : Wld} (hR : RW w) {L : List Slot} (h : L <+: slotsW w) (i : Int) : inN 288230376151711744 (countS L i):=by
 have h1:=countS_bd i (l:=L) fun s hs=>small_slots hR s (h.subset hs)
 have h2:=h.length_le
 have h3:=slots_bd hR (okW_rw hR)
 unfold inN;omega
theorem lend1c {P : Program} {fid : FuncId} {s : Slot} {i : Int} {v : AV} (h : Api P fid [.vec .slot [s],.lit (.int .u8 i)] v) (hv : scalB v = true) :
   Ev1 P fid [.own .slot 1 0 1 (some 1),.lit (.int .u8 i)] [(1,.row .slot [s])] v [(1,.row .slot [s])]:=by
 refine Api.lend h ?_ hv
 conv=>whnf
 exact ⟨Nat.le_refl _,rfl⟩
theorem have16_api (w : Wld) (hR : RW w) : Api Tryz.prog 35 [wldV w] (.vec .i64 (haveW w)):=by
 have hw:=okW_rw hR
 have hnp:=hw.np
 have hnc:=hw.nc
 unfold haveW
 obtain ⟨V,hz0,hnx,hat,hsf,hln,hVe⟩ : ∃ V : Nat → List (El .i64),V 0 = zeros13 ∧ (∀ i,i < 13 → (V i).set i (tw i w) = V (i + 1)) ∧ (∀ i,i < 13 → ∀ x : Int,elt .i64 ((V i).set i x) i = x) ∧ (∀ i,i < 13 → (V i).set i (0 : Int) = V i) ∧ (∀ i,i ≤ 13 → (V i).length = 13) ∧ V 13 = hv w 13:=
   ⟨hv w,hv_zero w,fun i h=>hv_next w h,fun i h x=>hv_at w h x,fun i h=>hv_self w h,fun i h=>hv_len w h,rfl⟩
 rw [← hVe]
 clear hVe
 have hlz : zeros13.length = 13:=rfl
 refine Api.of_fin cfg_ok Tryz.func35 rfl (nt:=86) rfl rfl ?_
 ((try with_reducible refine evCut fun N hN hE hT=>?_);(conv=>whnf))
 repeat' (first|exact trivial|((first|((first|refine hT _ _ ?_|refine hE _ _ _ ?_|refine hN _ _ ?_);clear hN hE hT)|refine kL ?_|(refine ⟨fun hb=>?_,fun hb=>?_⟩<;>(try simp only [nrm] at hb)<;>(try (first|(exfalso;omega)|contradiction|exact kB hb)))|refine kW cfg_ok ?_|refine kC ?_|refine bdA ?_|refine bd2 ?_|refine bdR ?_|refine bdL ?_)<;>((try with_reducible refine evCut fun N hN hE hT=>?_);(conv=>whnf)))|(refine And.intro ?_ ?_;rotate_left;(conv=>whnf);rotate_right))
 refine Runs.loopQ cfg_ok (σ:=Nat) [1,3,14] (fun i=>[.ptr 2 0,.own .i64 27 0 13 none,.lit (.int .u8 (i : Nat))]) (fun i=>[(2,.box (wldC w)),(27,.row .i64 (V i))]) (fun i=>i ≤ 13) (fun i=>13 - i) 0 (by omega) ?_ ?_
 · conv=>whnf
   repeat' (first|exact trivial|((first|((first|refine hT _ _ ?_|refine hE _ _ _ ?_|refine hN _ _ ?_);clear hN hE hT)|refine kL ?_|(refine ⟨fun hb=>?_,fun hb=>?_⟩<;>(try simp only [nrm] at hb)<;>(try (first|(exfalso;omega)|contradiction|exact kB hb)))|refine kW cfg_ok ?_|refine kC ?_|refine bdA ?_|refine bd2 ?_|refine bdR ?_|refine bdL ?_)<;>((try with_reducible refine evCut fun N hN hE hT=>?_);(conv=>whnf)))|(refine And.intro ?_ ?_;rotate_left;(conv=>whnf);rotate_right))
   all_goals first|rfl|omega|(rw [hz0];rfl)|trace_state
 · intro i hi N hN hE hT
   have hl1:=hln i hi
   by_cases hlt : i < 13
   · have hPQ : ∃ P Q : Nat → Int,P 0 = 0 ∧ P w.players.length = Q 0 ∧ Q w.chunks.length = tw i w ∧ (∀ k,inN 288230376151711744 (P k)) ∧ (∀ k,inN 288230376151711744 (Q k)) ∧
         (∀ k,k < w.players.length → P (k + 1) = P k + (countS (elt .player w.players k).bag i + countS (elt .player w.players k).offer i)) ∧
         (∀ k,k < w.chunks.length → ∃ H B : Nat → Int,H 0 = Q k ∧ H (elt .chunk w.chunks k).heaps.length = B 0 ∧ B (elt .chunk w.chunks k).boxes.length = Q (k + 1) ∧ (∀ j,inN 288230376151711744 (H j)) ∧ (∀ j,inN 288230376151711744 (B j)) ∧
           (∀ j,j < (elt .chunk w.chunks k).heaps.length → H (j + 1) = H j + countS [(elt .heap (elt .chunk w.chunks k).heaps j).slot] i) ∧ (∀ j,j < (elt .chunk w.chunks k).boxes.length → B (j + 1) = B j + countS (elt .box (elt .chunk w.chunks k).boxes j).bag i)):=
       ⟨fun k=>countS (lgP w k) i,fun k=>countS (lgC w k) i,rfl,by dsimp only;rw [lgP_end],by dsimp only;rw [lgC_end,count_slots],fun k=>pre_bd hR (pre_lgP w k) _,fun k=>pre_bd hR (pre_lgC w k) _,
         fun k hk=>by dsimp only;rw [lgP_succ hk,countS_app,countS_app],
         fun k hk=>⟨fun j=>countS (lgH w k j) i,fun j=>countS (lgB w k j) i,by dsimp only;rw [lgH_zero],by dsimp only;rw [lgB_zero],by dsimp only;rw [lgB_end hk],fun j=>pre_bd hR (pre_lgH hk j) _,fun j=>pre_bd hR (pre_lgB hk j) _,
           fun j hj=>by dsimp only;rw [lgH_succ hj,countS_app],fun j hj=>by dsimp only;rw [lgB_succ hj,countS_app]⟩⟩
     obtain ⟨P,Q,p0,p1,q1,p2,q2,p3,q3⟩:=hPQ
     obtain ⟨R,r0,rE,rl,re,rs⟩ : ∃ R : Int → List (El .i64),R 0 = V i ∧ R (tw i w) = V (i + 1) ∧ (∀ x,(R x).length = 13) ∧ (∀ b x : Int,inN b x → inN b (elt .i64 (R x) (((i : Nat) : Int).toNat + 0))) ∧ (∀ x z : Int,x + z = x + z → (R x).set (((i : Nat) : Int).toNat + 0) (elt .i64 (R x) (((i : Nat) : Int).toNat + 0) + z) = R (x + z)):=
       ⟨fun x=>(V i).set i x,hsf i hlt,hnx i hlt,fun x=>by rw [List.length_set];exact hl1,fun b x h=>by rw [Int.toNat_natCast,Nat.add_zero];exact (hat i hlt x).symm ▸ h,fun x z _=>by rw [Int.toNat_natCast,Nat.add_zero,List.set_set,hat i hlt x]⟩
     rw [← q1] at rE
     rw [← p0] at r0
     clear hnx hat hsf
     have hsP:=fun p (hp : p ∈ w.players)=>okP_sound (hR.players p hp).1
     have hsm:=small_slots hR
     conv=>whnf
     repeat' (first|exact trivial|((first|((first|refine hT _ _ ?_|refine hE _ _ _ ?_|refine hN _ _ ?_);clear hN hE hT)|refine kL ?_|(refine ⟨fun hb=>?_,fun hb=>?_⟩<;>(try simp only [nrm] at hb)<;>(try (first|(exfalso;omega)|contradiction|exact kB hb)))|refine kW cfg_ok ?_|refine kC ?_|refine bdA ?_|refine bd2 ?_|refine bdR ?_|refine bdL ?_)<;>((try with_reducible refine evCut fun N hN hE hT=>?_);(conv=>whnf)))|(refine And.intro ?_ ?_;rotate_left;(conv=>whnf);rotate_right))
     refine Runs.loopQ cfg_ok (σ:=Nat) [1,3,4,14,18,19,20] (fun k=>[.ptr 2 0,.own .i64 27 0 13 none,.lit (.int .u8 (i : Nat)),.lit (.int .u8 (i : Nat)),.vec .player w.players,i64 w.players.length,i64 k]) (fun k=>[(2,.box (wldC w)),(27,.row .i64 (R (P k)))]) (fun k=>k ≤ w.players.length) (fun k=>w.players.length - k) 0 (by omega) ?_ ?_
     · conv=>whnf
       repeat' (first|exact trivial|((first|((first|refine hT _ _ ?_|refine hE _ _ _ ?_|refine hN _ _ ?_);clear hN hE hT)|refine kL ?_|(refine ⟨fun hb=>?_,fun hb=>?_⟩<;>(try simp only [nrm] at hb)<;>(try (first|(exfalso;omega)|contradiction|exact kB hb)))|refine kW cfg_ok ?_|refine kC ?_|refine bdA ?_|refine bd2 ?_|refine bdR ?_|refine bdL ?_)<;>((try with_reducible refine evCut fun N hN hE hT=>?_);(conv=>whnf)))|(refine And.intro ?_ ?_;rotate_left;(conv=>whnf);rotate_right))
       all_goals first|rfl|omega|(rw [r0];exact List.take_of_length_le (by omega))|(rw [r0];omega)|trace_state
     · intro k hk N hN hE hT
       have hz2:=rl (P k)
       by_cases hlk : k < w.players.length
       · have hm:=elt_mem (t:=.player) hlk
         have hbl:=bag_le hm
         have hsb:=slots_bd hR hw
         have hb1 : ∀ s ∈ (elt .player w.players k).bag,s.n ≤ 16:=fun s hs=>((bagOk_small (sound_parts (hR.players _ hm).1).2.2.2.1) s hs).2
         have hb2 : ∀ s ∈ (elt .player w.players k).offer,s.n ≤ 16:=fun s hs=>by
           rcases (sound_parts (hR.players _ hm).1).2.2.2.2 with h|h
           · rw [h.2.1] at hs;cases hs
           · exact ((bagOk_small h.2.2.2.2) s hs).2
         have c1:=count_api (elt .player w.players k).bag i hb1 (by omega)
         have c2:=count_api (elt .player w.players k).offer i hb2 (by omega)
         have n1:=countS_nn i (elt .player w.players k).bag
         have n2:=countS_nn i (elt .player w.players k).offer
         have hs3:=p3 k hlk
         have hz3:=rl (P (k + 1))
         have hi1:=p2 k
         have hi2:=p2 (k + 1)
         have he:=re _ _ (p2 k)
         have hst:=rs (P k)
         unfold inN at hi1 hi2 he
         generalize countS (elt .player w.players k).bag i = C1 at *
         generalize countS (elt .player w.players k).offer i = C2 at *
         conv=>whnf
         repeat' (first|exact trivial|((first|((first|refine hT _ _ ?_|refine hE _ _ _ ?_|refine hN _ _ ?_);clear hN hE hT)|refine kL ?_|(refine ⟨fun hb=>?_,fun hb=>?_⟩<;>(try simp only [nrm] at hb)<;>(try (first|(exfalso;omega)|contradiction|exact kB hb)))|refine kA c1 ?_|refine kD c1 ?_|refine kA c2 ?_|refine kD c2 ?_|refine kW cfg_ok ?_|refine kC ?_|refine bdA ?_|refine bd2 ?_|refine bdR ?_|refine bdL ?_)<;>((try with_reducible refine evCut fun N hN hE hT=>?_);(conv=>whnf)))|(refine And.intro ?_ ?_;rotate_left;(conv=>whnf);rotate_right))
         refine .to (k + 1) (by omega) (by omega) ?_
         conv=>whnf
         repeat' (first|exact trivial|((first|((first|refine hT _ _ ?_|refine hE _ _ _ ?_|refine hN _ _ ?_);clear hN hE hT)|refine kL ?_|(refine ⟨fun hb=>?_,fun hb=>?_⟩<;>(try simp only [nrm] at hb)<;>(try (first|(exfalso;omega)|contradiction|exact kB hb)))|refine kW cfg_ok ?_|refine kC ?_|refine bdA ?_|refine bd2 ?_|refine bdR ?_|refine bdL ?_)<;>((try with_reducible refine evCut fun N hN hE hT=>?_);(conv=>whnf)))|(refine And.intro ?_ ?_;rotate_left;(conv=>whnf);rotate_right))
         all_goals first|rfl|omega|exact List.take_of_length_le (by omega)|(rw [hst _ rfl,← hs3];exact List.take_of_length_le (by omega))|(rw [List.length_set];omega)|trace_state
       · obtain rfl : k = w.players.length:=by omega
         have hz4:=rl (Q 0)
         conv=>whnf
         repeat' (first|exact trivial|((first|((first|refine hT _ _ ?_|refine hE _ _ _ ?_|refine hN _ _ ?_);clear hN hE hT)|refine kL ?_|(refine ⟨fun hb=>?_,fun hb=>?_⟩<;>(try simp only [nrm] at hb)<;>(try (first|(exfalso;omega)|contradiction|exact kB hb)))|refine kW cfg_ok ?_|refine kC ?_|refine bdA ?_|refine bd2 ?_|refine bdR ?_|refine bdL ?_)<;>((try with_reducible refine evCut fun N hN hE hT=>?_);(conv=>whnf)))|(refine And.intro ?_ ?_;rotate_left;(conv=>whnf);rotate_right))
         refine Runs.loopQ cfg_ok (σ:=Nat) [1,3,4,14,41,42,43] (fun k=>[.ptr 2 0,.own .i64 27 0 13 none,.lit (.int .u8 (i : Nat)),.lit (.int .u8 (i : Nat)),.vec .chunk w.chunks,i64 w.chunks.length,i64 k]) (fun k=>[(2,.box (wldC w)),(27,.row .i64 (R (Q k)))]) (fun k=>k ≤ w.chunks.length) (fun k=>w.chunks.length - k) 0 (by omega) ?_ ?_
         · conv=>whnf
           repeat' (first|exact trivial|((first|((first|refine hT _ _ ?_|refine hE _ _ _ ?_|refine hN _ _ ?_);clear hN hE hT)|refine kL ?_|(refine ⟨fun hb=>?_,fun hb=>?_⟩<;>(try simp only [nrm] at hb)<;>(try (first|(exfalso;omega)|contradiction|exact kB hb)))|refine kW cfg_ok ?_|refine kC ?_|refine bdA ?_|refine bd2 ?_|refine bdR ?_|refine bdL ?_)<;>((try with_reducible refine evCut fun N hN hE hT=>?_);(conv=>whnf)))|(refine And.intro ?_ ?_;rotate_left;(conv=>whnf);rotate_right))
           all_goals first|rfl|omega|(rw [p1];exact List.take_of_length_le (by omega))|(rw [p1];omega)|trace_state
         · intro k hk N hN hE hT
           have hz5:=rl (Q k)
           by_cases hlc : k < w.chunks.length
           · have hm:=elt_mem (t:=.chunk) hlc
             obtain ⟨H,B,h0,h1,h2,h3,h4,h5,h6⟩:=q3 k hlc
             have hok:=hw.fit _ hm
             have nh:=hok.heaps
             have nb:=hok.boxes
             have hcr:=(hR.chunks _ hm).1
             generalize hc : elt .chunk w.chunks k = c at *
             conv=>whnf
             repeat' (first|exact trivial|((first|((first|refine hT _ _ ?_|refine hE _ _ _ ?_|refine hN _ _ ?_);clear hN hE hT)|refine kL ?_|(refine ⟨fun hb=>?_,fun hb=>?_⟩<;>(try simp only [nrm] at hb)<;>(try (first|(exfalso;omega)|contradiction|exact kB hb)))|refine kW cfg_ok ?_|refine kC ?_|refine bdA ?_|refine bd2 ?_|refine bdR ?_|refine bdL ?_)<;>((try with_reducible refine evCut fun N hN hE hT=>?_);(conv=>whnf)))|(refine And.intro ?_ ?_;rotate_left;(conv=>whnf);rotate_right))
             rw [show elt .chunk w.chunks ((k : Nat) : Int).toNat = c from hc]
             have hz7:=rl (H 0)
             refine Runs.loopQ cfg_ok (σ:=Nat) [1,3,4,8,14,41,42,43,48,49,50] (fun j=>[.ptr 2 0,.own .i64 27 0 13 none,.lit (.int .u8 (i : Nat)),.ptr 16 0,.lit (.int .u8 (i : Nat)),.vec .chunk w.chunks,i64 w.chunks.length,i64 k,.vec .heap c.heaps,i64 c.heaps.length,i64 j]) (fun j=>[(2,.box (wldC w)),(16,.box (chunkC c)),(27,.row .i64 (R (H j)))]) (fun j=>j ≤ c.heaps.length) (fun j=>c.heaps.length - j) 0 (by omega) ?_ ?_
             · conv=>whnf
               repeat' (first|exact trivial|((first|((first|refine hT _ _ ?_|refine hE _ _ _ ?_|refine hN _ _ ?_);clear hN hE hT)|refine kL ?_|(refine ⟨fun hb=>?_,fun hb=>?_⟩<;>(try simp only [nrm] at hb)<;>(try (first|(exfalso;omega)|contradiction|exact kB hb)))|refine kW cfg_ok ?_|refine kC ?_|refine bdA ?_|refine bd2 ?_|refine bdR ?_|refine bdL ?_)<;>((try with_reducible refine evCut fun N hN hE hT=>?_);(conv=>whnf)))|(refine And.intro ?_ ?_;rotate_left;(conv=>whnf);rotate_right))
               all_goals first|rfl|omega|(rw [h0];exact List.take_of_length_le (by omega))|(rw [h0];omega)|trace_state
             · intro j hj N hN hE hT
               have hz8:=rl (H j)
               by_cases hlj : j < c.heaps.length
               · have hsl:=someB_ok (right_heap hcr (elt_mem (t:=.heap) hlj)).1
                 have c1:=count_api [(elt .heap c.heaps j).slot] i (fun s hs=>by rw [List.mem_singleton] at hs;rw [hs];omega) (by simp)
                 have n1:=countS_nn i [(elt .heap c.heaps j).slot]
                 have hs3:=h5 j hlj
                 have hz3:=rl (H (j + 1))
                 have hi1:=h3 j
                 have hi2:=h3 (j + 1)
                 have he:=re _ _ (h3 j)
                 have hst:=rs (H j)
                 unfold inN at hi1 hi2 he
                 generalize countS [(elt .heap c.heaps j).slot] i = C1 at *
                 conv=>whnf
                 repeat' (first|exact trivial|((first|((first|refine hT _ _ ?_|refine hE _ _ _ ?_|refine hN _ _ ?_);clear hN hE hT)|refine kL ?_|(refine ⟨fun hb=>?_,fun hb=>?_⟩<;>(try simp only [nrm] at hb)<;>(try (first|(exfalso;omega)|contradiction|exact kB hb)))|refine kE (lend1c c1 rfl) [(1,121)] rfl ?_|refine kF (lend1c c1 rfl) [(1,121)] rfl ?_|refine kW cfg_ok ?_|refine kC ?_|refine bdA ?_|refine bd2 ?_|refine bdR ?_|refine bdL ?_)<;>((try with_reducible refine evCut fun N hN hE hT=>?_);(conv=>whnf)))|(refine And.intro ?_ ?_;rotate_left;(conv=>whnf);rotate_right))
                 refine .to (j + 1) (by omega) (by omega) ?_
                 conv=>whnf
                 repeat' (first|exact trivial|((first|((first|refine hT _ _ ?_|refine hE _ _ _ ?_|refine hN _ _ ?_);clear hN hE hT)|refine kL ?_|(refine ⟨fun hb=>?_,fun hb=>?_⟩<;>(try simp only [nrm] at hb)<;>(try (first|(exfalso;omega)|contradiction|exact kB hb)))|refine kW cfg_ok ?_|refine kC ?_|refine bdA ?_|refine bd2 ?_|refine bdR ?_|refine bdL ?_)<;>((try with_reducible refine evCut fun N hN hE hT=>?_);(conv=>whnf)))|(refine And.intro ?_ ?_;rotate_left;(conv=>whnf);rotate_right))
                 all_goals first|rfl|omega|exact List.take_of_length_le (by omega)|(rw [hst _ rfl,← hs3];exact List.take_of_length_le (by omega))|(rw [List.length_set];omega)|trace_state
               · obtain rfl : j = c.heaps.length:=by omega
                 have hz9:=rl (B 0)
                 conv=>whnf
                 repeat' (first|exact trivial|((first|((first|refine hT _ _ ?_|refine hE _ _ _ ?_|refine hN _ _ ?_);clear hN hE hT)|refine kL ?_|(refine ⟨fun hb=>?_,fun hb=>?_⟩<;>(try simp only [nrm] at hb)<;>(try (first|(exfalso;omega)|contradiction|exact kB hb)))|refine kW cfg_ok ?_|refine kC ?_|refine bdA ?_|refine bd2 ?_|refine bdR ?_|refine bdL ?_)<;>((try with_reducible refine evCut fun N hN hE hT=>?_);(conv=>whnf)))|(refine And.intro ?_ ?_;rotate_left;(conv=>whnf);rotate_right))
                 refine Runs.loopQ cfg_ok (σ:=Nat) [1,3,4,14,41,42,43,67,68,69] (fun j=>[.ptr 2 0,.own .i64 27 0 13 none,.lit (.int .u8 (i : Nat)),.lit (.int .u8 (i : Nat)),.vec .chunk w.chunks,i64 w.chunks.length,i64 k,.vec .box c.boxes,i64 c.boxes.length,i64 j]) (fun j=>[(2,.box (wldC w)),(27,.row .i64 (R (B j)))]) (fun j=>j ≤ c.boxes.length) (fun j=>c.boxes.length - j) 0 (by omega) ?_ ?_
                 · conv=>whnf
                   repeat' (first|exact trivial|((first|((first|refine hT _ _ ?_|refine hE _ _ _ ?_|refine hN _ _ ?_);clear hN hE hT)|refine kL ?_|(refine ⟨fun hb=>?_,fun hb=>?_⟩<;>(try simp only [nrm] at hb)<;>(try (first|(exfalso;omega)|contradiction|exact kB hb)))|refine kW cfg_ok ?_|refine kC ?_|refine bdA ?_|refine bd2 ?_|refine bdR ?_|refine bdL ?_)<;>((try with_reducible refine evCut fun N hN hE hT=>?_);(conv=>whnf)))|(refine And.intro ?_ ?_;rotate_left;(conv=>whnf);rotate_right))
                   all_goals first|rfl|omega|(rw [h1];exact List.take_of_length_le (by omega))|(rw [h1];omega)|trace_state
                 · intro j hj N hN hE hT
                   have hz10:=rl (B j)
                   by_cases hlb : j < c.boxes.length
                   · have hbr:=right_bag hcr (elt_mem (t:=.box) hlb)
                     have c1:=count_api (elt .box c.boxes j).bag i (fun s hs=>(bagOk_small hbr.2 s hs).2) (by omega)
                     have n1:=countS_nn i (elt .box c.boxes j).bag
                     have hs3:=h6 j hlb
                     have hz3:=rl (B (j + 1))
                     have hi1:=h4 j
                     have hi2:=h4 (j + 1)
                     have he:=re _ _ (h4 j)
                     have hst:=rs (B j)
                     unfold inN at hi1 hi2 he
                     generalize countS (elt .box c.boxes j).bag i = C1 at *
                     conv=>whnf
                     repeat' (first|exact trivial|((first|((first|refine hT _ _ ?_|refine hE _ _ _ ?_|refine hN _ _ ?_);clear hN hE hT)|refine kL ?_|(refine ⟨fun hb=>?_,fun hb=>?_⟩<;>(try simp only [nrm] at hb)<;>(try (first|(exfalso;omega)|contradiction|exact kB hb)))|refine kA c1 ?_|refine kD c1 ?_|refine kW cfg_ok ?_|refine kC ?_|refine bdA ?_|refine bd2 ?_|refine bdR ?_|refine bdL ?_)<;>((try with_reducible refine evCut fun N hN hE hT=>?_);(conv=>whnf)))|(refine And.intro ?_ ?_;rotate_left;(conv=>whnf);rotate_right))
                     refine .to (j + 1) (by omega) (by omega) ?_
                     conv=>whnf
                     repeat' (first|exact trivial|((first|((first|refine hT _ _ ?_|refine hE _ _ _ ?_|refine hN _ _ ?_);clear hN hE hT)|refine kL ?_|(refine ⟨fun hb=>?_,fun hb=>?_⟩<;>(try simp only [nrm] at hb)<;>(try (first|(exfalso;omega)|contradiction|exact kB hb)))|refine kW cfg_ok ?_|refine kC ?_|refine bdA ?_|refine bd2 ?_|refine bdR ?_|refine bdL ?_)<;>((try with_reducible refine evCut fun N hN hE hT=>?_);(conv=>whnf)))|(refine And.intro ?_ ?_;rotate_left;(conv=>whnf);rotate_right))
                     all_goals first|rfl|omega|exact List.take_of_length_le (by omega)|(rw [hst _ rfl,← hs3];exact List.take_of_length_le (by omega))|(rw [List.length_set];omega)|trace_state
                   · obtain rfl : j = c.boxes.length:=by omega
                     have hz11:=rl (Q (k + 1))
                     conv=>whnf
                     repeat' (first|exact trivial|((first|((first|refine hT _ _ ?_|refine hE _ _ _ ?_|refine hN _ _ ?_);clear hN hE hT)|refine kL ?_|(refine ⟨fun hb=>?_,fun hb=>?_⟩<;>(try simp only [nrm] at hb)<;>(try (first|(exfalso;omega)|contradiction|exact kB hb)))|refine kW cfg_ok ?_|refine kC ?_|refine bdA ?_|refine bd2 ?_|refine bdR ?_|refine bdL ?_)<;>((try with_reducible refine evCut fun N hN hE hT=>?_);(conv=>whnf)))|(refine And.intro ?_ ?_;rotate_left;(conv=>whnf);rotate_right))
                     refine .to (k + 1) (by omega) (by omega) ?_
                     conv=>whnf
                     repeat' (first|exact trivial|((first|((first|refine hT _ _ ?_|refine hE _ _ _ ?_|refine hN _ _ ?_);clear hN hE hT)|refine kL ?_|(refine ⟨fun hb=>?_,fun hb=>?_⟩<;>(try simp only [nrm] at hb)<;>(try (first|(exfalso;omega)|contradiction|exact kB hb)))|refine kW cfg_ok ?_|refine kC ?_|refine bdA ?_|refine bd2 ?_|refine bdR ?_|refine bdL ?_)<;>((try with_reducible refine evCut fun N hN hE hT=>?_);(conv=>whnf)))|(refine And.intro ?_ ?_;rotate_left;(conv=>whnf);rotate_right))
                     all_goals first|rfl|omega|(rw [h2];exact List.take_of_length_le (by omega))|(rw [h2];omega)|trace_state
           · obtain rfl : k = w.chunks.length:=by omega
             have hz12:=hln (i + 1) (by omega)
             conv=>whnf
             repeat' (first|exact trivial|((first|((first|refine hT _ _ ?_|refine hE _ _ _ ?_|refine hN _ _ ?_);clear hN hE hT)|refine kL ?_|(refine ⟨fun hb=>?_,fun hb=>?_⟩<;>(try simp only [nrm] at hb)<;>(try (first|(exfalso;omega)|contradiction|exact kB hb)))|refine kW cfg_ok ?_|refine kC ?_|refine bdA ?_|refine bd2 ?_|refine bdR ?_|refine bdL ?_)<;>((try with_reducible refine evCut fun N hN hE hT=>?_);(conv=>whnf)))|(refine And.intro ?_ ?_;rotate_left;(conv=>whnf);rotate_right))
             refine .to (i + 1) (by omega) (by omega) ?_
             conv=>whnf
             repeat' (first|exact trivial|((first|((first|refine hT _ _ ?_|refine hE _ _ _ ?_|refine hN _ _ ?_);clear hN hE hT)|refine kL ?_|(refine ⟨fun hb=>?_,fun hb=>?_⟩<;>(try simp only [nrm] at hb)<;>(try (first|(exfalso;omega)|contradiction|exact kB hb)))|refine kW cfg_ok ?_|refine kC ?_|refine bdA ?_|refine bd2 ?_|refine bdR ?_|refine bdL ?_)<;>((try with_reducible refine evCut fun N hN hE hT=>?_);(conv=>whnf)))|(refine And.intro ?_ ?_;rotate_left;(conv=>whnf);rotate_right))
             all_goals first|rfl|omega|(rw [rE];exact List.take_of_length_le (by omega))|(rw [rE];omega)|trace_state
   · obtain rfl : i = 13:=by omega
     conv=>whnf
     repeat' (first|exact trivial|((first|((first|refine hT _ _ ?_|refine hE _ _ _ ?_|refine hN _ _ ?_);clear hN hE hT)|refine kL ?_|(refine ⟨fun hb=>?_,fun hb=>?_⟩<;>(try simp only [nrm] at hb)<;>(try (first|(exfalso;omega)|contradiction|exact kB hb)))|refine kW cfg_ok ?_|refine kC ?_|refine bdA ?_|refine bd2 ?_|refine bdR ?_|refine bdL ?_)<;>((try with_reducible refine evCut fun N hN hE hT=>?_);(conv=>whnf)))|(refine And.intro ?_ ?_;rotate_left;(conv=>whnf);rotate_right))
     all_goals first|rfl|omega|(rw [List.drop_zero];exact List.take_of_length_le (by omega))|trace_state
open Go Go.RowKit Eng
theorem rightD_place {c : Cmd} (h : rightD c = true) (h3 : c.dol = 3 ∨ c.dol = 4 ∨ c.dol = 7 ∨ c.dol = 8) : (0 ≤ c.a ∧ c.a ≤ 127) ∧ (0 ≤ c.b ∧ c.b ≤ 127):=by
 obtain ⟨d,a,b,e,n⟩:=c
 dsimp only at h3 ⊢
 rcases h3 with rfl|rfl|rfl|rfl
 · have h' : (rngB 0 127 a && (rngB 0 127 b && (zeroB e && zeroB n))) = true:=h
   simp only [rngB,Bool.and_eq_true,decide_eq_true_eq] at h'
   exact ⟨h'.1,h'.2.1⟩
 · have h' : (rngB 0 127 a && (rngB 0 127 b && (rngB 0 7 e && zeroB n))) = true:=h
   simp only [rngB,Bool.and_eq_true,decide_eq_true_eq] at h'
   exact ⟨h'.1,h'.2.1⟩
 · have h' : (rngB 0 127 a && (rngB 0 127 b && (rngB 0 7 e && rngB 1 1000 n))) = true:=h
   simp only [rngB,Bool.and_eq_true,decide_eq_true_eq] at h'
   exact ⟨h'.1,h'.2.1⟩
 · have h' : (rngB 0 127 a && (rngB 0 127 b && (rngB 0 7 e && rngB 1 1000 n))) = true:=h
   simp only [rngB,Bool.and_eq_true,decide_eq_true_eq] at h'
   exact ⟨h'.1,h'.2.1⟩
open Go Go.RowKit Eng
theorem actA_3 {w : Wld} {p : Player} {c : Cmd} (h3 : c.dol = 3) : actA w p c = breakA w p c:=by
 unfold actA;rw [if_neg (by omega),if_pos h3]
theorem actA_4 {w : Wld} {p : Player} {c : Cmd} (h3 : c.dol = 4) : actA w p c = placeA w p c:=by
 unfold actA;rw [if_neg (by omega),if_neg (by omega),if_pos h3]
theorem place_in {w : Wld} {p : Player} {c : Cmd} (h : (placeA w p c).2 = 0) : (takeS p.bag c.c 1).2.2 = 0 ∧ withinW w.size c.a c.b = true:=by
 unfold placeA at h
 split at h
 · rename_i h1;exact absurd h h1
 · rename_i h1
   split at h
   · rename_i h2;exact absurd h h2
   · rename_i h2;exact ⟨Decidable.not_not.1 h2,(aim_in (Decidable.not_not.1 h1)).1⟩
theorem take_item {l : List Slot} {a n : Int} (h : (takeS l a n).2.2 = 0) : 0 ≤ a ∧ a < l.length ∧ 1 ≤ (elt .slot l a.toNat).item ∧ (elt .slot l a.toNat).item ≤ 12:=by
 obtain ⟨n1,n2,n3,n4,n5,n6,n7,n8⟩:=takeS_n h
 have hb:=badSlot_false.1 (bagOk_iff.1 n4 _ (elt_mem (t:=.slot) (l:=l) (i:=a.toNat) (by omega)))
 refine ⟨n5,n6,?_⟩
 rcases hb with hb|hb
 · omega
 · have : 1 ≤ stackN (elt .slot l a.toNat).item:=by omega
   unfold stackN at this
   (repeat' split at this)<;>omega
end Go.Proofs.YtkojlembanldcaaGreat
