/- homesteadlaw16.Have, rules.Deltas; what is together changes by the deltas. -/
import Derived.Test.YtkojlembanldcaaGreatGi
import Derived.Test.YtkojlembanldcaaGreatGj
set_option linter.unusedSimpArgs false
set_option linter.unusedVariables false
set_option maxRecDepth 100000
set_option maxHeartbeats 4000000
namespace Go.Proofs.YtkojlembanldcaaGreat
open Go Go.RowKit Eng
theorem rightGo_len : ∀ (l : List Int) (k : Nat) (bs rest : List Box),rightGo l k bs = some rest → bs.length ≤ l.length + rest.length
 | [],_,bs,rest,h=>by unfold rightGo at h;rw [Option.some.inj h];omega
 | i :: r,k,bs,rest,h=>by
   unfold rightGo at h
   split at h
   · split at h
     · cases bs with
       | nil=>cases h
       | cons c t =>
         simp only at h
         split at h
         · have:=rightGo_len r (k + 1) t rest h
           simp only [List.length_cons];omega
         · cases h
     · have:=rightGo_len r (k + 1) bs rest h
       simp only [List.length_cons];omega
   · cases h
theorem rightC_len {c : Chunk} (h : rightB c = true) : c.cells.length = 64 ∧ c.heaps.length ≤ 32 ∧ c.boxes.length ≤ 64:=by
 have h3:=(right_parts h).2.2
 unfold headB at h3
 simp only [Bool.and_eq_true,decide_eq_true_eq] at h3
 obtain ⟨_,_,_,_,h4,h5⟩:=h3
 refine ⟨by omega,by omega,?_⟩
 unfold rightB at h
 rw [Bool.and_eq_true] at h
 obtain ⟨_,h2⟩:=h
 split at h2
 · rename_i hg
   have:=rightGo_len _ _ _ _ hg
   simp only [List.length_nil] at this;omega
 · cases h2
theorem sum_le {α : Type} {f : α → Nat} {m : Nat} : ∀ {l : List α},(∀ x ∈ l,f x ≤ m) → (l.map f).sum ≤ l.length * m
 | [],_=>by simp
 | a :: r,h=>by
   have h1:=h a (by simp)
   have h2:=sum_le (l:=r) fun x hx=>h x (List.mem_cons_of_mem _ hx)
   rw [List.map_cons,List.sum_cons,List.length_cons,Nat.succ_mul]
   omega
theorem slots_bd {w : Wld} (h : RW w) (hw : OkW w) : (slotsW w).length ≤ 18014398509481984:=by
 rw [slotsN_eq h]
 unfold slotsN
 have h1:=sum_le (l:=w.players) (f:=fun p=>p.bag.length + p.offer.length) (m:=16) fun p hp=>by
   obtain ⟨_,_,h3,_,h5⟩:=sound_parts (h.players p hp).1
   rcases h5 with ⟨_,h5,_⟩|⟨_,_,_,h5,_⟩
   · rw [h5];simp;omega
   · omega
 have h2:=sum_le (l:=w.chunks) (f:=fun c=>c.heaps.length + 6 * c.boxes.length) (m:=416) fun c hc=>by
   have:=rightC_len (h.chunks c hc).1
   omega
 have h3:=hw.nc
 have h4:=hw.np
 omega
theorem sameInts_api (a b : List (El .i64)) (ha : a.length ≤ 4000000000000000000) : Api Tryz.prog 25 [.vec .i64 a,.vec .i64 b] (bol (eqI a b)):=by
 by_cases hl : a.length = b.length
 · skip
   refine Api.of_fin cfg_ok Tryz.func25 rfl (nt:=24) rfl rfl ?_
   conv=>whnf
   repeat' (first|exact trivial|((first|refine kL ?_|(refine ⟨fun hb=>?_,fun hb=>?_⟩<;>(try simp only [nrm] at hb)<;>(try (first|(exfalso;omega)|contradiction|exact kB hb)))|refine kW cfg_ok ?_|refine kC ?_|refine bdA ?_|refine bd2 ?_|refine bdR ?_|refine bdL ?_)<;>(conv=>whnf))|(refine And.intro ?_ ?_;rotate_left;(conv=>whnf);rotate_right))
   all_goals try omega
   refine Runs.loopS cfg_ok (σ:=Nat) [0,1,5] (fun k=>[.vec .i64 a,.vec .i64 b,i64 k]) (fun _=>[]) (fun k=>k ≤ a.length ∧ a.take k = b.take k) (fun k=>a.length - k) 0 ⟨by omega,by rw [List.take_zero,List.take_zero]⟩ ?_ ?_
   · conv=>whnf
     repeat' (first|exact trivial|((first|refine kL ?_|(refine ⟨fun hb=>?_,fun hb=>?_⟩<;>(try simp only [nrm] at hb)<;>(try (first|(exfalso;omega)|contradiction|exact kB hb)))|refine kW cfg_ok ?_|refine kC ?_|refine bdA ?_|refine bd2 ?_|refine bdR ?_|refine bdL ?_)<;>(conv=>whnf))|(refine And.intro ?_ ?_;rotate_left;(conv=>whnf);rotate_right))
   · rintro k ⟨hk,ht⟩
     by_cases hlt : k < a.length
     · have ea:=elt_get .i64 a k hlt
       have eb:=elt_get .i64 b k (by omega)
       conv=>whnf
       repeat' (first|exact trivial|((first|refine kL ?_|(refine ⟨fun hb=>?_,fun hb=>?_⟩<;>(try simp only [nrm] at hb)<;>(try (first|(exfalso;omega)|contradiction|exact kB hb)))|refine kW cfg_ok ?_|refine kC ?_|refine bdA ?_|refine bd2 ?_|refine bdR ?_|refine bdL ?_)<;>(conv=>whnf))|(refine And.intro ?_ ?_;rotate_left;(conv=>whnf);rotate_right))
       · rename_i hb
         refine congrArg Value.bool ?_
         unfold eqI
         rw [decide_eq_false]
         intro he
         subst he
         exact hb rfl
       · rename_i hb
         refine .to (k + 1) ⟨by omega,?_⟩ (by omega) ?_
         · rw [List.take_add_one,List.take_add_one,ht,ea,eb]
           have hb2 : elt .i64 a k = elt .i64 b k:=hb
           rw [hb2]
         conv=>whnf
         repeat' (first|exact trivial|((first|refine kL ?_|(refine ⟨fun hb=>?_,fun hb=>?_⟩<;>(try simp only [nrm] at hb)<;>(try (first|(exfalso;omega)|contradiction|exact kB hb)))|refine kW cfg_ok ?_|refine kC ?_|refine bdA ?_|refine bd2 ?_|refine bdR ?_|refine bdL ?_)<;>(conv=>whnf))|(refine And.intro ?_ ?_;rotate_left;(conv=>whnf);rotate_right))
     · obtain rfl : k = a.length:=by omega
       conv=>whnf
       repeat' (first|exact trivial|((first|refine kL ?_|(refine ⟨fun hb=>?_,fun hb=>?_⟩<;>(try simp only [nrm] at hb)<;>(try (first|(exfalso;omega)|contradiction|exact kB hb)))|refine kW cfg_ok ?_|refine kC ?_|refine bdA ?_|refine bd2 ?_|refine bdR ?_|refine bdL ?_)<;>(conv=>whnf))|(refine And.intro ?_ ?_;rotate_left;(conv=>whnf);rotate_right))
       refine congrArg Value.bool ?_
       unfold eqI
       rw [decide_eq_true]
       rw [List.take_length,hl,List.take_length] at ht
       exact ht
 · have : eqI a b = false:=by unfold eqI;rw [decide_eq_false];intro h;exact hl (by rw [h])
   rw [this]
   refine Api.of_fin cfg_ok Tryz.func25 rfl (nt:=24) rfl rfl ?_
   conv=>whnf
   repeat' (first|exact trivial|((first|refine kL ?_|(refine ⟨fun hb=>?_,fun hb=>?_⟩<;>(try simp only [nrm] at hb)<;>(try (first|(exfalso;omega)|contradiction|exact kB hb)))|refine kW cfg_ok ?_|refine kC ?_|refine bdA ?_|refine bd2 ?_|refine bdR ?_|refine bdL ?_)<;>(conv=>whnf))|(refine And.intro ?_ ?_;rotate_left;(conv=>whnf);rotate_right))
   all_goals first|rfl|omega|trace_state
open Go Go.RowKit Eng
def hv (w : Wld) (i : Nat) : List Int:=(List.range i).map (fun k : Nat=>tw (k : Int) w) ++ List.replicate (13 - i) 0
def haveW (w : Wld) : List Int:=hv w 13
theorem hv_len (w : Wld) {i : Nat} (h : i ≤ 13) : (hv w i).length = 13:=by unfold hv;simp;omega
theorem hv_zero (w : Wld) : hv w 0 = zeros13:=rfl
theorem hv_next (w : Wld) {i : Nat} (h : i < 13) : (hv w i).set i (tw i w) = hv w (i + 1):=by
 unfold hv
 rw [List.range_succ,List.map_append,List.set_append_right _ _ (by simp)]
 simp only [List.length_map,List.length_range,Nat.sub_self,List.map_cons,List.map_nil,List.append_assoc]
 rw [show 13 - i = (13 - (i + 1)) + 1 by omega,List.replicate_succ];rfl
theorem hv_at (w : Wld) {i : Nat} (h : i < 13) (x : Int) : elt .i64 ((hv w i).set i x) i = x:=by
 unfold elt
 rw [List.getElem?_set_self (by rw [hv_len w (by omega)];exact h)];rfl
theorem hv_self (w : Wld) {i : Nat} (h : i < 13) : (hv w i).set i 0 = hv w i:=by
 unfold hv
 rw [List.set_append_right _ _ (by simp)]
 simp only [List.length_map,List.length_range,Nat.sub_self]
 rw [show 13 - i = (13 - (i + 1)) + 1 by omega,List.replicate_succ];rfl
theorem small_slots {w : Wld} (hR : RW w) : ∀ s ∈ slotsW w,s.n ≤ 16:=fun s hs=>by
 have:=nice_world hR (okW_rw hR) s hs
 have:=stackN_bd s.item
 unfold niceS at *;omega
theorem pre_bd {w : Wld} (hR : RW w) {L : List Slot} (h : L <+: slotsW w) (i : Int) : inN 288230376151711744 (countS L i):=by
 have h1:=countS_bd i (l:=L) fun s hs=>small_slots hR s (h.subset hs)
 have h2:=h.length_le
 have h3:=slots_bd hR (okW_rw hR)
 unfold inN;omega
theorem lend1c {P : Program} {fid : FuncId} {s : Slot} {i : Int} {v : AV} (h : Api P fid [.vec .slot [s],.lit (.int .u8 i)] v) (hv : scalB v = true) :
   Ev1 P fid [.own .slot 1 0 1 (some 1),.lit (.int .u8 i)] [(1,.row .slot [s])] v [(1,.row .slot [s])]:=by
 refine Api.lend h ?_ hv
 conv=>whnf
 exact ⟨Nat.le_refl _,rfl⟩
theorem have16_api (w : Wld) (hR : RW w) : Api Tryz.prog 35 [wldV w] (.vec .i64 (haveW w)):=by
 have hw:=okW_rw hR
 have hnp:=hw.np
 have hnc:=hw.nc
 unfold haveW
 obtain ⟨V,hz0,hnx,hat,hsf,hln,hVe⟩ : ∃ V : Nat → List (El .i64),V 0 = zeros13 ∧ (∀ i,i < 13 → (V i).set i (tw i w) = V (i + 1)) ∧ (∀ i,i < 13 → ∀ x : Int,elt .i64 ((V i).set i x) i = x) ∧ (∀ i,i < 13 → (V i).set i (0 : Int) = V i) ∧ (∀ i,i ≤ 13 → (V i).length = 13) ∧ V 13 = hv w 13:=
   ⟨hv w,hv_zero w,fun i h=>hv_next w h,fun i h x=>hv_at w h x,fun i h=>hv_self w h,fun i h=>hv_len w h,rfl⟩
 rw [← hVe]
 clear hVe
 have hlz : zeros13.length = 13:=rfl
 refine Api.of_fin cfg_ok Tryz.func35 rfl (nt:=86) rfl rfl ?_
 ((try with_reducible refine evCut fun N hN hE hT=>?_);(conv=>whnf))
 repeat' (first|exact trivial|((first|((first|refine hT _ _ ?_|refine hE _ _ _ ?_|refine hN _ _ ?_);clear hN hE hT)|refine kL ?_|(refine ⟨fun hb=>?_,fun hb=>?_⟩<;>(try simp only [nrm] at hb)<;>(try (first|(exfalso;omega)|contradiction|exact kB hb)))|refine kW cfg_ok ?_|refine kC ?_|refine bdA ?_|refine bd2 ?_|refine bdR ?_|refine bdL ?_)<;>((try with_reducible refine evCut fun N hN hE hT=>?_);(conv=>whnf)))|(refine And.intro ?_ ?_;rotate_left;(conv=>whnf);rotate_right))
 refine Runs.loopQ cfg_ok (σ:=Nat) [1,3,14] (fun i=>[.ptr 2 0,.own .i64 27 0 13 none,.lit (.int .u8 (i : Nat))]) (fun i=>[(2,.box (wldC w)),(27,.row .i64 (V i))]) (fun i=>i ≤ 13) (fun i=>13 - i) 0 (by omega) ?_ ?_
 · conv=>whnf
   repeat' (first|exact trivial|((first|((first|refine hT _ _ ?_|refine hE _ _ _ ?_|refine hN _ _ ?_);clear hN hE hT)|refine kL ?_|(refine ⟨fun hb=>?_,fun hb=>?_⟩<;>(try simp only [nrm] at hb)<;>(try (first|(exfalso;omega)|contradiction|exact kB hb)))|refine kW cfg_ok ?_|refine kC ?_|refine bdA ?_|refine bd2 ?_|refine bdR ?_|refine bdL ?_)<;>((try with_reducible refine evCut fun N hN hE hT=>?_);(conv=>whnf)))|(refine And.intro ?_ ?_;rotate_left;(conv=>whnf);rotate_right))
   all_goals first|rfl|omega|(rw [hz0];rfl)|trace_state
 · intro i hi N hN hE hT
   have hl1:=hln i hi
   by_cases hlt : i < 13
   · have hPQ : ∃ P Q : Nat → Int,P 0 = 0 ∧ P w.players.length = Q 0 ∧ Q w.chunks.length = tw i w ∧ (∀ k,inN 288230376151711744 (P k)) ∧ (∀ k,inN 288230376151711744 (Q k)) ∧
         (∀ k,k < w.players.length → P (k + 1) = P k + (countS (elt .player w.players k).bag i + countS (elt .player w.players k).offer i)) ∧
         (∀ k,k < w.chunks.length → ∃ H B : Nat → Int,H 0 = Q k ∧ H (elt .chunk w.chunks k).heaps.length = B 0 ∧ B (elt .chunk w.chunks k).boxes.length = Q (k + 1) ∧ (∀ j,inN 288230376151711744 (H j)) ∧ (∀ j,inN 288230376151711744 (B j)) ∧
           (∀ j,j < (elt .chunk w.chunks k).heaps.length → H (j + 1) = H j + countS [(elt .heap (elt .chunk w.chunks k).heaps j).slot] i) ∧ (∀ j,j < (elt .chunk w.chunks k).boxes.length → B (j + 1) = B j + countS (elt .box (elt .chunk w.chunks k).boxes j).bag i)):=
       ⟨fun k=>countS (lgP w k) i,fun k=>countS (lgC w k) i,rfl,by dsimp only;rw [lgP_end],by dsimp only;rw [lgC_end,count_slots],fun k=>pre_bd hR (pre_lgP w k) _,fun k=>pre_bd hR (pre_lgC w k) _,
         fun k hk=>by dsimp only;rw [lgP_succ hk,countS_app,countS_app],
         fun k hk=>⟨fun j=>countS (lgH w k j) i,fun j=>countS (lgB w k j) i,by dsimp only;rw [lgH_zero],by dsimp only;rw [lgB_zero],by dsimp only;rw [lgB_end hk],fun j=>pre_bd hR (pre_lgH hk j) _,fun j=>pre_bd hR (pre_lgB hk j) _,
           fun j hj=>by dsimp only;rw [lgH_succ hj,countS_app],fun j hj=>by dsimp only;rw [lgB_succ hj,countS_app]⟩⟩
     obtain ⟨P,Q,p0,p1,q1,p2,q2,p3,q3⟩:=hPQ
     obtain ⟨R,r0,rE,rl,re,rs⟩ : ∃ R : Int → List (El .i64),R 0 = V i ∧ R (tw i w) = V (i + 1) ∧ (∀ x,(R x).length = 13) ∧ (∀ b x : Int,inN b x → inN b (elt .i64 (R x) (((i : Nat) : Int).toNat + 0))) ∧ (∀ x z : Int,x + z = x + z → (R x).set (((i : Nat) : Int).toNat + 0) (elt .i64 (R x) (((i : Nat) : Int).toNat + 0) + z) = R (x + z)):=
       ⟨fun x=>(V i).set i x,hsf i hlt,hnx i hlt,fun x=>by rw [List.length_set];exact hl1,fun b x h=>by rw [Int.toNat_natCast,Nat.add_zero];exact (hat i hlt x).symm ▸ h,fun x z _=>by rw [Int.toNat_natCast,Nat.add_zero,List.set_set,hat i hlt x]⟩
     rw [← q1] at rE
     rw [← p0] at r0
     clear hnx hat hsf
     have hsP:=fun p (hp : p ∈ w.players)=>okP_sound (hR.players p hp).1
     have hsm:=small_slots hR
     conv=>whnf
     repeat' (first|exact trivial|((first|((first|refine hT _ _ ?_|refine hE _ _ _ ?_|refine hN _ _ ?_);clear hN hE hT)|refine kL ?_|(refine ⟨fun hb=>?_,fun hb=>?_⟩<;>(try simp only [nrm] at hb)<;>(try (first|(exfalso;omega)|contradiction|exact kB hb)))|refine kW cfg_ok ?_|refine kC ?_|refine bdA ?_|refine bd2 ?_|refine bdR ?_|refine bdL ?_)<;>((try with_reducible refine evCut fun N hN hE hT=>?_);(conv=>whnf)))|(refine And.intro ?_ ?_;rotate_left;(conv=>whnf);rotate_right))
     refine Runs.loopQ cfg_ok (σ:=Nat) [1,3,4,14,18,19,20] (fun k=>[.ptr 2 0,.own .i64 27 0 13 none,.lit (.int .u8 (i : Nat)),.lit (.int .u8 (i : Nat)),.vec .player w.players,i64 w.players.length,i64 k]) (fun k=>[(2,.box (wldC w)),(27,.row .i64 (R (P k)))]) (fun k=>k ≤ w.players.length) (fun k=>w.players.length - k) 0 (by omega) ?_ ?_
     · conv=>whnf
       repeat' (first|exact trivial|((first|((first|refine hT _ _ ?_|refine hE _ _ _ ?_|refine hN _ _ ?_);clear hN hE hT)|refine kL ?_|(refine ⟨fun hb=>?_,fun hb=>?_⟩<;>(try simp only [nrm] at hb)<;>(try (first|(exfalso;omega)|contradiction|exact kB hb)))|refine kW cfg_ok ?_|refine kC ?_|refine bdA ?_|refine bd2 ?_|refine bdR ?_|refine bdL ?_)<;>((try with_reducible refine evCut fun N hN hE hT=>?_);(conv=>whnf)))|(refine And.intro ?_ ?_;rotate_left;(conv=>whnf);rotate_right))
       all_goals first|rfl|omega|(rw [r0];exact List.take_of_length_le (by omega))|(rw [r0];omega)|trace_state
     · intro k hk N hN hE hT
       have hz2:=rl (P k)
       by_cases hlk : k < w.players.length
       · have hm:=elt_mem (t:=.player) hlk
         have hbl:=bag_le hm
         have hsb:=slots_bd hR hw
         have hb1 : ∀ s ∈ (elt .player w.players k).bag,s.n ≤ 16:=fun s hs=>((bagOk_small (sound_parts (hR.players _ hm).1).2.2.2.1) s hs).2
         have hb2 : ∀ s ∈ (elt .player w.players k).offer,s.n ≤ 16:=fun s hs=>by
           rcases (sound_parts (hR.players _ hm).1).2.2.2.2 with h|h
           · rw [h.2.1] at hs;cases hs
           · exact ((bagOk_small h.2.2.2.2) s hs).2
         have c1:=count_api (elt .player w.players k).bag i hb1 (by omega)
         have c2:=count_api (elt .player w.players k).offer i hb2 (by omega)
         have n1:=countS_nn i (elt .player w.players k).bag
         have n2:=countS_nn i (elt .player w.players k).offer
         have hs3:=p3 k hlk
         have hz3:=rl (P (k + 1))
         have hi1:=p2 k
         have hi2:=p2 (k + 1)
         have he:=re _ _ (p2 k)
         have hst:=rs (P k)
         unfold inN at hi1 hi2 he
         generalize countS (elt .player w.players k).bag i = C1 at *
         generalize countS (elt .player w.players k).offer i = C2 at *
         conv=>whnf
         repeat' (first|exact trivial|((first|((first|refine hT _ _ ?_|refine hE _ _ _ ?_|refine hN _ _ ?_);clear hN hE hT)|refine kL ?_|(refine ⟨fun hb=>?_,fun hb=>?_⟩<;>(try simp only [nrm] at hb)<;>(try (first|(exfalso;omega)|contradiction|exact kB hb)))|refine kA c1 ?_|refine kD c1 ?_|refine kA c2 ?_|refine kD c2 ?_|refine kW cfg_ok ?_|refine kC ?_|refine bdA ?_|refine bd2 ?_|refine bdR ?_|refine bdL ?_)<;>((try with_reducible refine evCut fun N hN hE hT=>?_);(conv=>whnf)))|(refine And.intro ?_ ?_;rotate_left;(conv=>whnf);rotate_right))
         refine .to (k + 1) (by omega) (by omega) ?_
         conv=>whnf
         repeat' (first|exact trivial|((first|((first|refine hT _ _ ?_|refine hE _ _ _ ?_|refine hN _ _ ?_);clear hN hE hT)|refine kL ?_|(refine ⟨fun hb=>?_,fun hb=>?_⟩<;>(try simp only [nrm] at hb)<;>(try (first|(exfalso;omega)|contradiction|exact kB hb)))|refine kW cfg_ok ?_|refine kC ?_|refine bdA ?_|refine bd2 ?_|refine bdR ?_|refine bdL ?_)<;>((try with_reducible refine evCut fun N hN hE hT=>?_);(conv=>whnf)))|(refine And.intro ?_ ?_;rotate_left;(conv=>whnf);rotate_right))
         all_goals first|rfl|omega|exact List.take_of_length_le (by omega)|(rw [hst _ rfl,← hs3];exact List.take_of_length_le (by omega))|(rw [List.length_set];omega)|trace_state
       · obtain rfl : k = w.players.length:=by omega
         have hz4:=rl (Q 0)
         conv=>whnf
         repeat' (first|exact trivial|((first|((first|refine hT _ _ ?_|refine hE _ _ _ ?_|refine hN _ _ ?_);clear hN hE hT)|refine kL ?_|(refine ⟨fun hb=>?_,fun hb=>?_⟩<;>(try simp only [nrm] at hb)<;>(try (first|(exfalso;omega)|contradiction|exact kB hb)))|refine kW cfg_ok ?_|refine kC ?_|refine bdA ?_|refine bd2 ?_|refine bdR ?_|refine bdL ?_)<;>((try with_reducible refine evCut fun N hN hE hT=>?_);(conv=>whnf)))|(refine And.intro ?_ ?_;rotate_left;(conv=>whnf);rotate_right))
         refine Runs.loopQ cfg_ok (σ:=Nat) [1,3,4,14,41,42,43] (fun k=>[.ptr 2 0,.own .i64 27 0 13 none,.lit (.int .u8 (i : Nat)),.lit (.int .u8 (i : Nat)),.vec .chunk w.chunks,i64 w.chunks.length,i64 k]) (fun k=>[(2,.box (wldC w)),(27,.row .i64 (R (Q k)))]) (fun k=>k ≤ w.chunks.length) (fun k=>w.chunks.length - k) 0 (by omega) ?_ ?_
         · conv=>whnf
           repeat' (first|exact trivial|((first|((first|refine hT _ _ ?_|refine hE _ _ _ ?_|refine hN _ _ ?_);clear hN hE hT)|refine kL ?_|(refine ⟨fun hb=>?_,fun hb=>?_⟩<;>(try simp only [nrm] at hb)<;>(try (first|(exfalso;omega)|contradiction|exact kB hb)))|refine kW cfg_ok ?_|refine kC ?_|refine bdA ?_|refine bd2 ?_|refine bdR ?_|refine bdL ?_)<;>((try with_reducible refine evCut fun N hN hE hT=>?_);(conv=>whnf)))|(refine And.intro ?_ ?_;rotate_left;(conv=>whnf);rotate_right))
           all_goals first|rfl|omega|(rw [p1];exact List.take_of_length_le (by omega))|(rw [p1];omega)|trace_state
         · intro k hk N hN hE hT
           have hz5:=rl (Q k)
           by_cases hlc : k < w.chunks.length
           · have hm:=elt_mem (t:=.chunk) hlc
             obtain ⟨H,B,h0,h1,h2,h3,h4,h5,h6⟩:=q3 k hlc
             have hok:=hw.fit _ hm
             have nh:=hok.heaps
             have nb:=hok.boxes
             have hcr:=(hR.chunks _ hm).1
             generalize hc : elt .chunk w.chunks k = c at *
             conv=>whnf
             repeat' (first|exact trivial|((first|((first|refine hT _ _ ?_|refine hE _ _ _ ?_|refine hN _ _ ?_);clear hN hE hT)|refine kL ?_|(refine ⟨fun hb=>?_,fun hb=>?_⟩<;>(try simp only [nrm] at hb)<;>(try (first|(exfalso;omega)|contradiction|exact kB hb)))|refine kW cfg_ok ?_|refine kC ?_|refine bdA ?_|refine bd2 ?_|refine bdR ?_|refine bdL ?_)<;>((try with_reducible refine evCut fun N hN hE hT=>?_);(conv=>whnf)))|(refine And.intro ?_ ?_;rotate_left;(conv=>whnf);rotate_right))
             rw [show elt .chunk w.chunks ((k : Nat) : Int).toNat = c from hc]
             have hz7:=rl (H 0)
             refine Runs.loopQ cfg_ok (σ:=Nat) [1,3,4,8,14,41,42,43,48,49,50] (fun j=>[.ptr 2 0,.own .i64 27 0 13 none,.lit (.int .u8 (i : Nat)),.ptr 16 0,.lit (.int .u8 (i : Nat)),.vec .chunk w.chunks,i64 w.chunks.length,i64 k,.vec .heap c.heaps,i64 c.heaps.length,i64 j]) (fun j=>[(2,.box (wldC w)),(16,.box (chunkC c)),(27,.row .i64 (R (H j)))]) (fun j=>j ≤ c.heaps.length) (fun j=>c.heaps.length - j) 0 (by omega) ?_ ?_
             · conv=>whnf
               repeat' (first|exact trivial|((first|((first|refine hT _ _ ?_|refine hE _ _ _ ?_|refine hN _ _ ?_);clear hN hE hT)|refine kL ?_|(refine ⟨fun hb=>?_,fun hb=>?_⟩<;>(try simp only [nrm] at hb)<;>(try (first|(exfalso;omega)|contradiction|exact kB hb)))|refine kW cfg_ok ?_|refine kC ?_|refine bdA ?_|refine bd2 ?_|refine bdR ?_|refine bdL ?_)<;>((try with_reducible refine evCut fun N hN hE hT=>?_);(conv=>whnf)))|(refine And.intro ?_ ?_;rotate_left;(conv=>whnf);rotate_right))
               all_goals first|rfl|omega|(rw [h0];exact List.take_of_length_le (by omega))|(rw [h0];omega)|trace_state
             · intro j hj N hN hE hT
               have hz8:=rl (H j)
               by_cases hlj : j < c.heaps.length
               · have hsl:=someB_ok (right_heap hcr (elt_mem (t:=.heap) hlj)).1
                 have c1:=count_api [(elt .heap c.heaps j).slot] i (fun s hs=>by rw [List.mem_singleton] at hs;rw [hs];omega) (by simp)
                 have n1:=countS_nn i [(elt .heap c.heaps j).slot]
                 have hs3:=h5 j hlj
                 have hz3:=rl (H (j + 1))
                 have hi1:=h3 j
                 have hi2:=h3 (j + 1)
                 have he:=re _ _ (h3 j)
                 have hst:=rs (H j)
                 unfold inN at hi1 hi2 he
                 generalize countS [(elt .heap c.heaps j).slot] i = C1 at *
                 conv=>whnf
                 repeat' (first|exact trivial|((first|((first|refine hT _ _ ?_|refine hE _ _ _ ?_|refine hN _ _ ?_);clear hN hE hT)|refine kL ?_|(refine ⟨fun hb=>?_,fun hb=>?_⟩<;>(try simp only [nrm] at hb)<;>(try (first|(exfalso;omega)|contradiction|exact kB hb)))|refine kE (lend1c c1 rfl) [(1,121)] rfl ?_|refine kF (lend1c c1 rfl) [(1,121)] rfl ?_|refine kW cfg_ok ?_|refine kC ?_|refine bdA ?_|refine bd2 ?_|refine bdR ?_|refine bdL ?_)<;>((try with_reducible refine evCut fun N hN hE hT=>?_);(conv=>whnf)))|(refine And.intro ?_ ?_;rotate_left;(conv=>whnf);rotate_right))
                 refine .to (j + 1) (by omega) (by omega) ?_
                 conv=>whnf
                 repeat' (first|exact trivial|((first|((first|refine hT _ _ ?_|refine hE _ _ _ ?_|refine hN _ _ ?_);clear hN hE hT)|refine kL ?_|(refine ⟨fun hb=>?_,fun hb=>?_⟩<;>(try simp only [nrm] at hb)<;>(try (first|(exfalso;omega)|contradiction|exact kB hb)))|refine kW cfg_ok ?_|refine kC ?_|refine bdA ?_|refine bd2 ?_|refine bdR ?_|refine bdL ?_)<;>((try with_reducible refine evCut fun N hN hE hT=>?_);(conv=>whnf)))|(refine And.intro ?_ ?_;rotate_left;(conv=>whnf);rotate_right))
                 all_goals first|rfl|omega|exact List.take_of_length_le (by omega)|(rw [hst _ rfl,← hs3];exact List.take_of_length_le (by omega))|(rw [List.length_set];omega)|trace_state
               · obtain rfl : j = c.heaps.length:=by omega
                 have hz9:=rl (B 0)
                 conv=>whnf
                 repeat' (first|exact trivial|((first|((first|refine hT _ _ ?_|refine hE _ _ _ ?_|refine hN _ _ ?_);clear hN hE hT)|refine kL ?_|(refine ⟨fun hb=>?_,fun hb=>?_⟩<;>(try simp only [nrm] at hb)<;>(try (first|(exfalso;omega)|contradiction|exact kB hb)))|refine kW cfg_ok ?_|refine kC ?_|refine bdA ?_|refine bd2 ?_|refine bdR ?_|refine bdL ?_)<;>((try with_reducible refine evCut fun N hN hE hT=>?_);(conv=>whnf)))|(refine And.intro ?_ ?_;rotate_left;(conv=>whnf);rotate_right))
                 refine Runs.loopQ cfg_ok (σ:=Nat) [1,3,4,14,41,42,43,67,68,69] (fun j=>[.ptr 2 0,.own .i64 27 0 13 none,.lit (.int .u8 (i : Nat)),.lit (.int .u8 (i : Nat)),.vec .chunk w.chunks,i64 w.chunks.length,i64 k,.vec .box c.boxes,i64 c.boxes.length,i64 j]) (fun j=>[(2,.box (wldC w)),(27,.row .i64 (R (B j)))]) (fun j=>j ≤ c.boxes.length) (fun j=>c.boxes.length - j) 0 (by omega) ?_ ?_
                 · conv=>whnf
                   repeat' (first|exact trivial|((first|((first|refine hT _ _ ?_|refine hE _ _ _ ?_|refine hN _ _ ?_);clear hN hE hT)|refine kL ?_|(refine ⟨fun hb=>?_,fun hb=>?_⟩<;>(try simp only [nrm] at hb)<;>(try (first|(exfalso;omega)|contradiction|exact kB hb)))|refine kW cfg_ok ?_|refine kC ?_|refine bdA ?_|refine bd2 ?_|refine bdR ?_|refine bdL ?_)<;>((try with_reducible refine evCut fun N hN hE hT=>?_);(conv=>whnf)))|(refine And.intro ?_ ?_;rotate_left;(conv=>whnf);rotate_right))
                   all_goals first|rfl|omega|(rw [h1];exact List.take_of_length_le (by omega))|(rw [h1];omega)|trace_state
                 · intro j hj N hN hE hT
                   have hz10:=rl (B j)
                   by_cases hlb : j < c.boxes.length
                   · have hbr:=right_bag hcr (elt_mem (t:=.box) hlb)
                     have c1:=count_api (elt .box c.boxes j).bag i (fun s hs=>(bagOk_small hbr.2 s hs).2) (by omega)
                     have n1:=countS_nn i (elt .box c.boxes j).bag
                     have hs3:=h6 j hlb
                     have hz3:=rl (B (j + 1))
                     have hi1:=h4 j
                     have hi2:=h4 (j + 1)
                     have he:=re _ _ (h4 j)
                     have hst:=rs (B j)
                     unfold inN at hi1 hi2 he
                     generalize countS (elt .box c.boxes j).bag i = C1 at *
                     conv=>whnf
                     repeat' (first|exact trivial|((first|((first|refine hT _ _ ?_|refine hE _ _ _ ?_|refine hN _ _ ?_);clear hN hE hT)|refine kL ?_|(refine ⟨fun hb=>?_,fun hb=>?_⟩<;>(try simp only [nrm] at hb)<;>(try (first|(exfalso;omega)|contradiction|exact kB hb)))|refine kA c1 ?_|refine kD c1 ?_|refine kW cfg_ok ?_|refine kC ?_|refine bdA ?_|refine bd2 ?_|refine bdR ?_|refine bdL ?_)<;>((try with_reducible refine evCut fun N hN hE hT=>?_);(conv=>whnf)))|(refine And.intro ?_ ?_;rotate_left;(conv=>whnf);rotate_right))
                     refine .to (j + 1) (by omega) (by omega) ?_
                     conv=>whnf
                     repeat' (first|exact trivial|((first|((first|refine hT _ _ ?_|refine hE _ _ _ ?_|refine hN _ _ ?_);clear hN hE hT)|refine kL ?_|(refine ⟨fun hb=>?_,fun hb=>?_⟩<;>(try simp only [nrm] at hb)<;>(try (first|(exfalso;omega)|contradiction|exact kB hb)))|refine kW cfg_ok ?_|refine kC ?_|refine bdA ?_|refine bd2 ?_|refine bdR ?_|refine bdL ?_)<;>((try with_reducible refine evCut fun N hN hE hT=>?_);(conv=>whnf)))|(refine And.intro ?_ ?_;rotate_left;(conv=>whnf);rotate_right))
                     all_goals first|rfl|omega|exact List.take_of_length_le (by omega)|(rw [hst _ rfl,← hs3];exact List.take_of_length_le (by omega))|(rw [List.length_set];omega)|trace_state
                   · obtain rfl : j = c.boxes.length:=by omega
                     have hz11:=rl (Q (k + 1))
                     conv=>whnf
                     repeat' (first|exact trivial|((first|((first|refine hT _ _ ?_|refine hE _ _ _ ?_|refine hN _ _ ?_);clear hN hE hT)|refine kL ?_|(refine ⟨fun hb=>?_,fun hb=>?_⟩<;>(try simp only [nrm] at hb)<;>(try (first|(exfalso;omega)|contradiction|exact kB hb)))|refine kW cfg_ok ?_|refine kC ?_|refine bdA ?_|refine bd2 ?_|refine bdR ?_|refine bdL ?_)<;>((try with_reducible refine evCut fun N hN hE hT=>?_);(conv=>whnf)))|(refine And.intro ?_ ?_;rotate_left;(conv=>whnf);rotate_right))
                     refine .to (k + 1) (by omega) (by omega) ?_
                     conv=>whnf
                     repeat' (first|exact trivial|((first|((first|refine hT _ _ ?_|refine hE _ _ _ ?_|refine hN _ _ ?_);clear hN hE hT)|refine kL ?_|(refine ⟨fun hb=>?_,fun hb=>?_⟩<;>(try simp only [nrm] at hb)<;>(try (first|(exfalso;omega)|contradiction|exact kB hb)))|refine kW cfg_ok ?_|refine kC ?_|refine bdA ?_|refine bd2 ?_|refine bdR ?_|refine bdL ?_)<;>((try with_reducible refine evCut fun N hN hE hT=>?_);(conv=>whnf)))|(refine And.intro ?_ ?_;rotate_left;(conv=>whnf);rotate_right))
                     all_goals first|rfl|omega|(rw [h2];exact List.take_of_length_le (by omega))|(rw [h2];omega)|trace_state
           · obtain rfl : k = w.chunks.length:=by omega
             have hz12:=hln (i + 1) (by omega)
             conv=>whnf
             repeat' (first|exact trivial|((first|((first|refine hT _ _ ?_|refine hE _ _ _ ?_|refine hN _ _ ?_);clear hN hE hT)|refine kL ?_|(refine ⟨fun hb=>?_,fun hb=>?_⟩<;>(try simp only [nrm] at hb)<;>(try (first|(exfalso;omega)|contradiction|exact kB hb)))|refine kW cfg_ok ?_|refine kC ?_|refine bdA ?_|refine bd2 ?_|refine bdR ?_|refine bdL ?_)<;>((try with_reducible refine evCut fun N hN hE hT=>?_);(conv=>whnf)))|(refine And.intro ?_ ?_;rotate_left;(conv=>whnf);rotate_right))
             refine .to (i + 1) (by omega) (by omega) ?_
             conv=>whnf
             repeat' (first|exact trivial|((first|((first|refine hT _ _ ?_|refine hE _ _ _ ?_|refine hN _ _ ?_);clear hN hE hT)|refine kL ?_|(refine ⟨fun hb=>?_,fun hb=>?_⟩<;>(try simp only [nrm] at hb)<;>(try (first|(exfalso;omega)|contradiction|exact kB hb)))|refine kW cfg_ok ?_|refine kC ?_|refine bdA ?_|refine bd2 ?_|refine bdR ?_|refine bdL ?_)<;>((try with_reducible refine evCut fun N hN hE hT=>?_);(conv=>whnf)))|(refine And.intro ?_ ?_;rotate_left;(conv=>whnf);rotate_right))
             all_goals first|rfl|omega|(rw [rE];exact List.take_of_length_le (by omega))|(rw [rE];omega)|trace_state
   · obtain rfl : i = 13:=by omega
     conv=>whnf
     repeat' (first|exact trivial|((first|((first|refine hT _ _ ?_|refine hE _ _ _ ?_|refine hN _ _ ?_);clear hN hE hT)|refine kL ?_|(refine ⟨fun hb=>?_,fun hb=>?_⟩<;>(try simp only [nrm] at hb)<;>(try (first|(exfalso;omega)|contradiction|exact kB hb)))|refine kW cfg_ok ?_|refine kC ?_|refine bdA ?_|refine bd2 ?_|refine bdR ?_|refine bdL ?_)<;>((try with_reducible refine evCut fun N hN hE hT=>?_);(conv=>whnf)))|(refine And.intro ?_ ?_;rotate_left;(conv=>whnf);rotate_right))
     all_goals first|rfl|omega|(rw [List.drop_zero];exact List.take_of_length_le (by omega))|trace_state
open Go Go.RowKit Eng
def addAt (C : List Int) (i x : Int) : List Int:=C.set i.toNat (elt .i64 C i.toNat + x)
theorem addAt_len (C : List Int) (i x : Int) : (addAt C i x).length = C.length:=by unfold addAt;rw [List.length_set]
theorem elt_addAt {C : List Int} (hl : C.length = 13) {i : Int} (hi : 0 ≤ i ∧ i ≤ 12) (x : Int) (k : Nat) : elt .i64 (addAt C i x) k = if k = i.toNat then elt .i64 C k + x else elt .i64 C k:=by
 unfold addAt
 by_cases h : k = i.toNat
 · rw [if_pos h];subst h
   unfold elt
   rw [List.getElem?_set_self (by omega)];rfl
 · rw [if_neg h]
   unfold elt
   rw [List.getElem?_set_ne (fun e=>h e.symm)]
def subAll (C : List Int) (l : List Slot) : List Int:=l.foldl (fun C s=>addAt C s.item (-s.n)) C
def deltasW (w : Wld) (id : Int) (c : Cmd) : List Int:=
 if ¬ (applyW w id c).2 = 0 then zeros13
 else if c.dol = 3 then addAt zeros13 (givesI (atW w c.a c.b).1) 1
 else if c.dol = 4 then addAt zeros13 (elt .slot (playerW w id).1.bag c.c.toNat).item (-1)
 else if c.dol = 10 then addAt zeros13 11 (-1)
 else if c.dol = 9 then (match recipeN c.c with
   | some (wants,makes)=>addAt (subAll zeros13 wants) makes.item makes.n
   | none=>zeros13)
 else zeros13
theorem subAll_len (l : List Slot) : ∀ C : List Int,(subAll C l).length = C.length:=by
 induction l with
 | nil=>intro C;rfl
 | cons s r ih=>intro C;show (subAll (addAt C s.item (-s.n)) r).length = _;rw [ih,addAt_len]
theorem elt_subAll {l : List Slot} : ∀ {C : List Int},C.length = 13 → (∀ s ∈ l,0 ≤ s.item ∧ s.item ≤ 12) → ∀ k : Nat,elt .i64 (subAll C l) k = elt .i64 C k - sumF (fun s : Slot=>if k = s.item.toNat then s.n else 0) l:=by
 induction l with
 | nil=>intro C _ _ k;show elt .i64 C k = elt .i64 C k - 0;exact (Int.sub_zero _).symm
 | cons s r ih =>
   intro C hl hs k
   show elt .i64 (subAll (addAt C s.item (-s.n)) r) k = elt .i64 C k - ((if k = s.item.toNat then s.n else 0) + sumF _ r)
   rw [ih (by rw [addAt_len];exact hl) (fun x hx=>hs x (List.mem_cons_of_mem _ hx)),elt_addAt hl (hs s (by simp))]
   generalize sumF (fun s : Slot=>if k = s.item.toNat then s.n else 0) r = z
   have hx : ∀ x : Int,(if k = s.item.toNat then x + -s.n else x) - z = x - ((if k = s.item.toNat then s.n else 0) + z):=by
     intro x;split<;>omega
   exact hx _
theorem sum_sel {l : List Slot} (hs : ∀ s ∈ l,0 ≤ s.item ∧ s.item ≤ 12) {k : Nat} (hk : ¬ (k : Int) = 0) : sumF (fun s : Slot=>if k = s.item.toNat then s.n else 0) l = takesR l k:=by
 unfold takesR
 induction l with
 | nil=>rfl
 | cons s r ih =>
   have h:=hs s (by simp)
   simp only [sumF,ih fun x hx=>hs x (List.mem_cons_of_mem _ hx)]
   unfold sel
   by_cases e : k = s.item.toNat
   · rw [if_pos e,if_pos ⟨hk,by omega⟩]
   · rw [if_neg e,if_neg (fun h=>e (by omega))]
theorem takes_zero {l : List Slot} : takesR l 0 = 0:=by
 unfold takesR
 induction l with
 | nil=>rfl
 | cons s r ih=>simp only [sumF,ih];unfold sel;simp
theorem givesI_12 {i : Int} (h : 0 ≤ i ∧ i ≤ 12) : 0 ≤ givesI i ∧ givesI i ≤ 12:=by
 unfold givesI;split
 · omega
 · split<;>omega
theorem fin_one {G : Int} (hg : 0 ≤ G ∧ G ≤ 12) {x : Int} (hx : IntKind.i64.wrap (0 + x) = 0 + x) : List.take 13 (List.drop 0 (zeros13.set (G.toNat + 0) (IntKind.i64.wrap ((elt .i64 zeros13 (G.toNat + 0) : Int) + x)))) = addAt zeros13 G x:=by
 have hz:=zeros_elt G.toNat (by omega)
 unfold addAt
 rw [Nat.add_zero,List.drop_zero,hz]
 refine (List.take_of_length_le (by rw [List.length_set];exact Nat.le_refl _)).trans ?_
 exact congrArg (zeros13.set G.toNat) hx
theorem delta_err (w : Wld) (id : Int) (c : Cmd) (hw : OkW w) (hi : id ≤ 9223372036854775807) (hd : 0 ≤ c.dol ∧ c.dol ≤ 255) (he : ¬ (applyW w id c).2 = 0) : Api Tryz.prog 39 [wldV w,i64 id,cmdV c] (.vec .i64 zeros13):=by
 have hap:=apply_api w id c hw hi hd
 have hz : List.replicate 13 (0 : Int) = zeros13:=rfl
 generalize applyW w id c = R at *
 generalize zeros13 = Z at *
 refine Api.of_fin cfg_ok Tryz.func39 rfl (nt:=109) rfl rfl ?_
 ((try with_reducible refine evCut fun N hN hE hT=>?_);(conv=>whnf))
 repeat' (first|exact trivial|((first|((first|refine hT _ _ ?_|refine hE _ _ _ ?_|refine hN _ _ ?_);clear hN hE hT)|refine kL ?_|(refine ⟨fun hb=>?_,fun hb=>?_⟩<;>(try simp only [nrm] at hb)<;>(try (first|(exfalso;omega)|contradiction|exact kB hb)))|refine kA hap ?_|refine kD hap ?_|refine kW cfg_ok ?_|refine kC ?_|refine bdA ?_|refine bd2 ?_|refine bdR ?_|refine bdL ?_)<;>((try with_reducible refine evCut fun N hN hE hT=>?_);(conv=>whnf)))|(refine And.intro ?_ ?_;rotate_left;(conv=>whnf);rotate_right))
 all_goals first|rfl|omega|exact hz|(rw [← hz];rfl)|trace_state
theorem delta_no (w : Wld) (id : Int) (c : Cmd) (hw : OkW w) (hi : id ≤ 9223372036854775807) (hd : 0 ≤ c.dol ∧ c.dol ≤ 255) (he : (applyW w id c).2 = 0) (h3 : ¬ c.dol = 3) (h4 : ¬ c.dol = 4) (h10 : ¬ c.dol = 10) (h9 : ¬ c.dol = 9) : Api Tryz.prog 39 [wldV w,i64 id,cmdV c] (.vec .i64 zeros13):=by
 have hap:=apply_api w id c hw hi hd
 have hz : List.replicate 13 (0 : Int) = zeros13:=rfl
 generalize applyW w id c = R at *
 generalize zeros13 = Z at *
 refine Api.of_fin cfg_ok Tryz.func39 rfl (nt:=109) rfl rfl ?_
 ((try with_reducible refine evCut fun N hN hE hT=>?_);(conv=>whnf))
 repeat' (first|exact trivial|((first|((first|refine hT _ _ ?_|refine hE _ _ _ ?_|refine hN _ _ ?_);clear hN hE hT)|refine kL ?_|(refine ⟨fun hb=>?_,fun hb=>?_⟩<;>(try simp only [nrm] at hb)<;>(try (first|(exfalso;omega)|contradiction|exact kB hb)))|refine kA hap ?_|refine kD hap ?_|refine kW cfg_ok ?_|refine kC ?_|refine bdA ?_|refine bd2 ?_|refine bdR ?_|refine bdL ?_)<;>((try with_reducible refine evCut fun N hN hE hT=>?_);(conv=>whnf)))|(refine And.intro ?_ ?_;rotate_left;(conv=>whnf);rotate_right))
 all_goals first|rfl|omega|exact hz|(rw [← hz];rfl)|trace_state
theorem delta_3 (w : Wld) (id : Int) (c : Cmd) (hw : OkW w) (hi : id ≤ 9223372036854775807) (hd : 0 ≤ c.dol ∧ c.dol ≤ 255) (he : (applyW w id c).2 = 0) (h3 : c.dol = 3) (hab : c.a ≤ 127 ∧ c.b ≤ 127) (hc : 0 ≤ (atW w c.a c.b).1 ∧ (atW w c.a c.b).1 ≤ 12) : Api Tryz.prog 39 [wldV w,i64 id,cmdV c] (.vec .i64 (addAt zeros13 (givesI (atW w c.a c.b).1) 1)):=by
 have hap:=apply_api w id c hw hi hd
 have hat:=at_api w c.a c.b hw (by omega) (by omega)
 have hgv:=gives_api (atW w c.a c.b).1 hc.1 (by omega)
 have hg:=givesI_12 hc
 have hf:=fin_one hg (x:=1) (by decide)
 generalize givesI (atW w c.a c.b).1 = G at *
 generalize atW w c.a c.b = A at *
 generalize applyW w id c = R at *
 refine Api.of_fin cfg_ok Tryz.func39 rfl (nt:=109) rfl rfl ?_
 ((try with_reducible refine evCut fun N hN hE hT=>?_);(conv=>whnf))
 repeat' (first|exact trivial|((first|((first|refine hT _ _ ?_|refine hE _ _ _ ?_|refine hN _ _ ?_);clear hN hE hT)|refine kL ?_|(refine ⟨fun hb=>?_,fun hb=>?_⟩<;>(try simp only [nrm] at hb)<;>(try (first|(exfalso;omega)|contradiction|exact kB hb)))|refine kA hap ?_|refine kD hap ?_|refine kA hat ?_|refine kD hat ?_|refine kA hgv ?_|refine kD hgv ?_|refine kW cfg_ok ?_|refine kC ?_|refine bdA ?_|refine bd2 ?_|refine bdR ?_|refine bdL ?_)<;>((try with_reducible refine evCut fun N hN hE hT=>?_);(conv=>whnf)))|(refine And.intro ?_ ?_;rotate_left;(conv=>whnf);rotate_right))
 all_goals first|rfl|omega|exact hf|trace_state
theorem delta_4 (w : Wld) (id : Int) (c : Cmd) (hw : OkW w) (hi : id ≤ 9223372036854775807) (hd : 0 ≤ c.dol ∧ c.dol ≤ 255) (he : (applyW w id c).2 = 0) (h4 : c.dol = 4) (hc : 0 ≤ c.c ∧ c.c < (playerW w id).1.bag.length) (hit : 0 ≤ (elt .slot (playerW w id).1.bag c.c.toNat).item ∧ (elt .slot (playerW w id).1.bag c.c.toNat).item ≤ 12) : Api Tryz.prog 39 [wldV w,i64 id,cmdV c] (.vec .i64 (addAt zeros13 (elt .slot (playerW w id).1.bag c.c.toNat).item (-1))):=by
 have hap:=apply_api w id c hw hi hd
 have hpl:=wplayer_api w id hw
 have hf:=fin_one hit (x:=-1) (by decide)
 have hit2 : (elt .slot (playerW w id).1.bag (c.c.toNat + 0)).item = (elt .slot (playerW w id).1.bag c.c.toNat).item:=rfl
 generalize playerW w id = P at *
 generalize applyW w id c = R at *
 refine Api.of_fin cfg_ok Tryz.func39 rfl (nt:=109) rfl rfl ?_
 ((try with_reducible refine evCut fun N hN hE hT=>?_);(conv=>whnf))
 repeat' (first|exact trivial|((first|((first|refine hT _ _ ?_|refine hE _ _ _ ?_|refine hN _ _ ?_);clear hN hE hT)|refine kL ?_|(refine ⟨fun hb=>?_,fun hb=>?_⟩<;>(try simp only [nrm] at hb)<;>(try (first|(exfalso;omega)|contradiction|exact kB hb)))|refine kA hap ?_|refine kD hap ?_|refine kA hpl ?_|refine kD hpl ?_|refine kW cfg_ok ?_|refine kC ?_|refine bdA ?_|refine bd2 ?_|refine bdR ?_|refine bdL ?_)<;>((try with_reducible refine evCut fun N hN hE hT=>?_);(conv=>whnf)))|(refine And.intro ?_ ?_;rotate_left;(conv=>whnf);rotate_right))
 all_goals first|rfl|omega|exact hf|trace_state
theorem delta_10 (w : Wld) (id : Int) (c : Cmd) (hw : OkW w) (hi : id ≤ 9223372036854775807) (hd : 0 ≤ c.dol ∧ c.dol ≤ 255) (he : (applyW w id c).2 = 0) (h10 : c.dol = 10) : Api Tryz.prog 39 [wldV w,i64 id,cmdV c] (.vec .i64 (addAt zeros13 11 (-1))):=by
 have hap:=apply_api w id c hw hi hd
 generalize applyW w id c = R at *
 refine Api.of_fin cfg_ok Tryz.func39 rfl (nt:=109) rfl rfl ?_
 ((try with_reducible refine evCut fun N hN hE hT=>?_);(conv=>whnf))
 repeat' (first|exact trivial|((first|((first|refine hT _ _ ?_|refine hE _ _ _ ?_|refine hN _ _ ?_);clear hN hE hT)|refine kL ?_|(refine ⟨fun hb=>?_,fun hb=>?_⟩<;>(try simp only [nrm] at hb)<;>(try (first|(exfalso;omega)|contradiction|exact kB hb)))|refine kA hap ?_|refine kD hap ?_|refine kW cfg_ok ?_|refine kC ?_|refine bdA ?_|refine bd2 ?_|refine bdR ?_|refine bdL ?_)<;>((try with_reducible refine evCut fun N hN hE hT=>?_);(conv=>whnf)))|(refine And.intro ?_ ?_;rotate_left;(conv=>whnf);rotate_right))
 all_goals first|rfl|omega|trace_state
theorem subAll_next {C : List Int} {l : List Slot} {k : Nat} (h : k < l.length) : subAll C (l.take (k + 1)) = addAt (subAll C (l.take k)) (elt .slot l k).item (-(elt .slot l k).n):=by
 unfold subAll
 rw [List.take_add_one,elt_get .slot l k h,List.foldl_append];rfl
theorem sumF_abs (f : Slot → Int) : ∀ l : List Slot,(∀ s ∈ l,0 ≤ f s ∧ f s ≤ 16) → 0 ≤ sumF f l ∧ sumF f l ≤ 16 * l.length
 | [],_=>⟨Int.le_refl _,Int.le_refl _⟩
 | s :: r,h=>by
   have h1:=h s (by simp)
   have h2:=sumF_abs f r fun x hx=>h x (List.mem_cons_of_mem _ hx)
   simp only [sumF,List.length_cons]
   omega
theorem sub_bd {l : List Slot} (hs : ∀ s ∈ l,1 ≤ s.item ∧ s.item ≤ 12 ∧ 1 ≤ s.n ∧ s.n ≤ 16) (h2 : l.length ≤ 2) {k : Nat} (hk : k < 13) : ∃ z : Int,elt .i64 (subAll zeros13 l) k = -z ∧ 0 ≤ z ∧ z ≤ 32:=by
 have h:=elt_subAll (C:=zeros13) rfl (fun s hm=>(⟨by have:=hs s hm;omega,by have:=hs s hm;omega⟩ : 0 ≤ s.item ∧ s.item ≤ 12)) k
 have hb:=sumF_abs (fun s : Slot=>if k = s.item.toNat then s.n else 0) l fun s hm=>by have:=hs s hm;split<;>omega
 refine ⟨_,h.trans ?_,hb.1,by omega⟩
 rw [zeros_elt k hk]
 exact Int.zero_sub _
def inZ (b n : Int) : Prop:=-b ≤ n ∧ n ≤ b
theorem delta_9 (w : Wld) (id : Int) (c : Cmd) (hw : OkW w) (hi : id ≤ 9223372036854775807) (hd : 0 ≤ c.dol ∧ c.dol ≤ 255) (he : (applyW w id c).2 = 0) (h9 : c.dol = 9) (hn : 0 ≤ c.c ∧ c.c < 7) : Api Tryz.prog 39 [wldV w,i64 id,cmdV c] (.vec .i64 (addAt (subAll zeros13 (elt .recipe recipesR c.c.toNat).of) (elt .recipe recipesR c.c.toNat).makes.item (elt .recipe recipesR c.c.toNat).makes.n)):=by
 have hap:=apply_api w id c hw hi hd
 have hre:=recipe_some c.c hn.1 hn.2
 obtain ⟨r1,r2,r3,r4,r5,r6,r7⟩:=recipe_ok (recipe_at hn.1 hn.2)
 generalize (elt .recipe recipesR c.c.toNat).of = W at *
 generalize (elt .recipe recipesR c.c.toNat).makes = M at *
 generalize applyW w id c = R at *
 have hnx:=fun k (h : k < W.length)=>subAll_next (C:=zeros13) h
 have hln:=fun k=>(subAll_len (W.take k) zeros13).trans (show zeros13.length = 13 from rfl)
 have hbd : ∀ k i : Nat,i < 13 → inZ 32 (elt .i64 (subAll zeros13 (W.take k)) i):=fun k i hi=>by
   obtain ⟨z,e,z0,z1⟩:=sub_bd (l:=W.take k) (fun s hs=>r1 s (List.mem_of_mem_take hs)) (by rw [List.length_take];omega) hi
   rw [e];unfold inZ;omega
 have h0 : subAll zeros13 (W.take 0) = List.replicate 13 (0 : Int):=rfl
 have hend : subAll zeros13 W = subAll zeros13 (W.take W.length):=by rw [List.take_length]
 rw [hend]
 obtain ⟨D,hD⟩ : ∃ D : Nat → List (El .i64),D = fun k=>subAll zeros13 (W.take k):=⟨_,rfl⟩
 have hnx2 : ∀ k,k < W.length → D (k + 1) = addAt (D k) (elt .slot W k).item (-(elt .slot W k).n):=by rw [hD];exact hnx
 have hln2 : ∀ k,(D k).length = 13:=by rw [hD];exact hln
 have hbd2 : ∀ k i : Nat,i < 13 → inZ 32 (elt .i64 (D k) i):=by rw [hD];exact hbd
 have h02 : D 0 = List.replicate 13 (0 : Int):=by rw [hD];exact h0
 have hgoal : addAt (subAll zeros13 (W.take W.length)) M.item M.n = addAt (D W.length) M.item M.n:=by rw [hD]
 rw [hgoal]
 clear hgoal hnx hln hbd h0 hend hD
 refine Api.of_fin cfg_ok Tryz.func39 rfl (nt:=109) rfl rfl ?_
 ((try with_reducible refine evCut fun N hN hE hT=>?_);(conv=>whnf))
 repeat' (first|exact trivial|((first|((first|refine hT _ _ ?_|refine hE _ _ _ ?_|refine hN _ _ ?_);clear hN hE hT)|refine kL ?_|(refine ⟨fun hb=>?_,fun hb=>?_⟩<;>(try simp only [nrm] at hb)<;>(try (first|(exfalso;omega)|contradiction|exact kB hb)))|refine kA hap ?_|refine kD hap ?_|refine kA hre ?_|refine kD hre ?_|refine kW cfg_ok ?_|refine kC ?_|refine bdA ?_|refine bd2 ?_|refine bdR ?_|refine bdL ?_)<;>((try with_reducible refine evCut fun N hN hE hT=>?_);(conv=>whnf)))|(refine And.intro ?_ ?_;rotate_left;(conv=>whnf);rotate_right))
 refine Runs.loopS cfg_ok (σ:=Nat) [7,15,86,87,88] (fun k=>[.own .i64 39 0 13 none,.ptr 30 0,.vec .slot W,i64 W.length,i64 k]) (fun k=>[(30,.box [.lit (.int .u8 M.item),i64 M.n]),(39,.row .i64 (D k))]) (fun k=>k ≤ W.length) (fun k=>W.length - k) 0 (by omega) ?_ ?_
 · conv=>whnf
   repeat' (first|exact trivial|((first|((first|refine hT _ _ ?_|refine hE _ _ _ ?_|refine hN _ _ ?_);clear hN hE hT)|refine kL ?_|(refine ⟨fun hb=>?_,fun hb=>?_⟩<;>(try simp only [nrm] at hb)<;>(try (first|(exfalso;omega)|contradiction|exact kB hb)))|refine kW cfg_ok ?_|refine kC ?_|refine bdA ?_|refine bd2 ?_|refine bdR ?_|refine bdL ?_)<;>((try with_reducible refine evCut fun N hN hE hT=>?_);(conv=>whnf)))|(refine And.intro ?_ ?_;rotate_left;(conv=>whnf);rotate_right))
   all_goals first|rfl|omega|(rw [h02];rfl)|trace_state
 · intro k hk
   have hz1:=hln2 k
   by_cases hlt : k < W.length
   · have hs:=r1 _ (elt_mem (t:=.slot) hlt)
     have hz2:=hln2 (k + 1)
     have hb:=hbd2 k ((elt .slot W ((k : Nat) : Int).toNat).item.toNat + 0) (by rw [Int.toNat_natCast];omega)
     have hs4 : 1 ≤ (elt .slot W ((k : Nat) : Int).toNat).item ∧ (elt .slot W ((k : Nat) : Int).toNat).item ≤ 12 ∧ 1 ≤ (elt .slot W ((k : Nat) : Int).toNat).n ∧ (elt .slot W ((k : Nat) : Int).toNat).n ≤ 16:=by rw [Int.toNat_natCast];exact hs
     have hx:=hnx2 k hlt
     unfold inZ at hb
     conv=>whnf
     repeat' (first|exact trivial|((first|((first|refine hT _ _ ?_|refine hE _ _ _ ?_|refine hN _ _ ?_);clear hN hE hT)|refine kL ?_|(refine ⟨fun hb=>?_,fun hb=>?_⟩<;>(try simp only [nrm] at hb)<;>(try (first|(exfalso;omega)|contradiction|exact kB hb)))|refine kW cfg_ok ?_|refine kC ?_|refine bdA ?_|refine bd2 ?_|refine bdR ?_|refine bdL ?_)<;>((try with_reducible refine evCut fun N hN hE hT=>?_);(conv=>whnf)))|(refine And.intro ?_ ?_;rotate_left;(conv=>whnf);rotate_right))
     refine .to (k + 1) hlt (by omega) ?_
     conv=>whnf
     repeat' (first|exact trivial|((first|((first|refine hT _ _ ?_|refine hE _ _ _ ?_|refine hN _ _ ?_);clear hN hE hT)|refine kL ?_|(refine ⟨fun hb=>?_,fun hb=>?_⟩<;>(try simp only [nrm] at hb)<;>(try (first|(exfalso;omega)|contradiction|exact kB hb)))|refine kW cfg_ok ?_|refine kC ?_|refine bdA ?_|refine bd2 ?_|refine bdR ?_|refine bdL ?_)<;>((try with_reducible refine evCut fun N hN hE hT=>?_);(conv=>whnf)))|(refine And.intro ?_ ?_;rotate_left;(conv=>whnf);rotate_right))
     all_goals first|rfl|omega|(rw [List.length_set];omega)|(rw [hx];exact List.take_of_length_le (by rw [List.length_set];omega))|trace_state
   · obtain rfl : k = W.length:=by omega
     have hb:=hbd2 W.length (M.item.toNat + 0) (by omega)
     unfold inZ at hb
     conv=>whnf
     repeat' (first|exact trivial|((first|((first|refine hT _ _ ?_|refine hE _ _ _ ?_|refine hN _ _ ?_);clear hN hE hT)|refine kL ?_|(refine ⟨fun hb=>?_,fun hb=>?_⟩<;>(try simp only [nrm] at hb)<;>(try (first|(exfalso;omega)|contradiction|exact kB hb)))|refine kW cfg_ok ?_|refine kC ?_|refine bdA ?_|refine bd2 ?_|refine bdR ?_|refine bdL ?_)<;>((try with_reducible refine evCut fun N hN hE hT=>?_);(conv=>whnf)))|(refine And.intro ?_ ?_;rotate_left;(conv=>whnf);rotate_right))
     all_goals first|rfl|omega|(rw [List.length_set];omega)|(rw [List.drop_zero];exact List.take_of_length_le (by rw [List.length_set];omega))|trace_state
theorem rightD_place {c : Cmd} (h : rightD c = true) (h3 : c.dol = 3 ∨ c.dol = 4 ∨ c.dol = 7 ∨ c.dol = 8) : (0 ≤ c.a ∧ c.a ≤ 127) ∧ (0 ≤ c.b ∧ c.b ≤ 127):=by
 obtain ⟨d,a,b,e,n⟩:=c
 dsimp only at h3 ⊢
 rcases h3 with rfl|rfl|rfl|rfl
 · have h' : (rngB 0 127 a && (rngB 0 127 b && (zeroB e && zeroB n))) = true:=h
   simp only [rngB,Bool.and_eq_true,decide_eq_true_eq] at h'
   exact ⟨h'.1,h'.2.1⟩
 · have h' : (rngB 0 127 a && (rngB 0 127 b && (rngB 0 7 e && zeroB n))) = true:=h
   simp only [rngB,Bool.and_eq_true,decide_eq_true_eq] at h'
   exact ⟨h'.1,h'.2.1⟩
 · have h' : (rngB 0 127 a && (rngB 0 127 b && (rngB 0 7 e && rngB 1 1000 n))) = true:=h
   simp only [rngB,Bool.and_eq_true,decide_eq_true_eq] at h'
   exact ⟨h'.1,h'.2.1⟩
 · have h' : (rngB 0 127 a && (rngB 0 127 b && (rngB 0 7 e && rngB 1 1000 n))) = true:=h
   simp only [rngB,Bool.and_eq_true,decide_eq_true_eq] at h'
   exact ⟨h'.1,h'.2.1⟩
open Go Go.RowKit Eng
theorem zeros_at (k : Nat) (h : k < 13) : elt .i64 zeros13 k = (0 : Int):=zeros_elt k h
theorem one_at {g : Int} (h : 1 ≤ g ∧ g ≤ 12) (x : Int) {k : Nat} (hk : k < 13) : elt .i64 (addAt zeros13 g x) k = sel k g x:=by
 have e:=elt_addAt (C:=zeros13) rfl (i:=g) (by omega) x k
 rw [zeros_at k hk] at e
 rw [e]
 unfold sel
 by_cases h2 : k = g.toNat
 · rw [if_pos h2,if_pos ⟨by omega,by omega⟩];exact Int.zero_add x
 · rw [if_neg h2,if_neg (fun h3=>h2 (by omega))]
theorem act_no {w : Wld} {p : Player} {c : Cmd} (hp : Here w p) (h : (actA w p c).2 = 0) (hd : ¬ c.dol = 3 ∧ ¬ c.dol = 4 ∧ ¬ c.dol = 9 ∧ ¬ c.dol = 10) (k : Int) : tw k (actA w p c).1 = tw k w:=by
 unfold actA at h ⊢
 by_cases h2 : c.dol = 2
 · rw [if_pos h2] at h ⊢;exact move_count hp h k
 rw [if_neg h2,if_neg hd.1,if_neg hd.2.1] at h ⊢
 by_cases h5 : c.dol = 5
 · rw [if_pos h5] at h ⊢;exact take_count2 hp h k
 rw [if_neg h5] at h ⊢
 by_cases h6 : c.dol = 6
 · rw [if_pos h6] at h ⊢;exact drop_count hp h k
 rw [if_neg h6] at h ⊢
 by_cases h7 : c.dol = 7 ∨ c.dol = 8
 · rw [if_pos h7] at h ⊢;exact store_count hp h k
 rw [if_neg h7,if_neg hd.2.2.1,if_neg hd.2.2.2] at h ⊢
 exact deal_count hp h k
theorem actA_3 {w : Wld} {p : Player} {c : Cmd} (h3 : c.dol = 3) : actA w p c = breakA w p c:=by
 unfold actA;rw [if_neg (by omega),if_pos h3]
theorem actA_4 {w : Wld} {p : Player} {c : Cmd} (h3 : c.dol = 4) : actA w p c = placeA w p c:=by
 unfold actA;rw [if_neg (by omega),if_neg (by omega),if_pos h3]
theorem actA_9 {w : Wld} {p : Player} {c : Cmd} (h3 : c.dol = 9) : actA w p c = craftA w p c:=by
 unfold actA;rw [if_neg (by omega),if_neg (by omega),if_neg (by omega),if_neg (by omega),if_neg (by omega),if_neg (by omega),if_pos h3]
theorem actA_10 {w : Wld} {p : Player} {c : Cmd} (h3 : c.dol = 10) : actA w p c = eatA w p:=by
 unfold actA;rw [if_neg (by omega),if_neg (by omega),if_neg (by omega),if_neg (by omega),if_neg (by omega),if_neg (by omega),if_neg (by omega),if_pos h3]
theorem break_in {w : Wld} {p : Player} {c : Cmd} (hR : RW w) (h : (breakA w p c).2 = 0) : withinW w.size c.a c.b = true ∧ 1 ≤ (atW w c.a c.b).1 ∧ (atW w c.a c.b).1 ≤ 12 ∧ blockB (atW w c.a c.b).1 = true:=by
 unfold breakA at h
 split at h
 · rename_i h1;exact absurd h h1
 · rename_i h1
   have hin:=(aim_in (Decidable.not_not.1 h1)).1
   split at h
   · simp at h
   · rename_i h2
     have hK:=(place_right hR hin).1
     have hI:=placeI_bd c.a c.b
     have hl:=right_len hK
     have hit : itemOk (cellA (placeC w c.a c.b) (placeI c.a c.b)) = true:=(right_fits hK).items _ (elt_mem (t:=.u8) (l:=(placeC w c.a c.b).cells) (i:=(placeI c.a c.b).toNat) (by omega))
     rw [at_place hR hin]
     have hb:=itemOk_bd hit
     dsimp only
     have h2' : ¬ cellA (placeC w c.a c.b) (placeI c.a c.b) = 0:=h2
     generalize cellA (placeC w c.a c.b) (placeI c.a c.b) = E at *
     refine ⟨hin,by omega,hb.2,?_⟩
     unfold itemOk at hit
     rw [Bool.or_eq_true,beq_iff_eq] at hit
     rcases hit with h|h
     · exact absurd h h2'
     · exact h
theorem gives_1 {i : Int} (h1 : 1 ≤ i) (h2 : i ≤ 12) (hb : blockB i = true) : 1 ≤ givesI i ∧ givesI i ≤ 12:=by
 unfold givesI
 by_cases h4 : i = 4
 · rw [if_pos h4];omega
 · rw [if_neg h4,if_pos hb];exact ⟨h1,h2⟩
theorem place_in {w : Wld} {p : Player} {c : Cmd} (h : (placeA w p c).2 = 0) : (takeS p.bag c.c 1).2.2 = 0 ∧ withinW w.size c.a c.b = true:=by
 unfold placeA at h
 split at h
 · rename_i h1;exact absurd h h1
 · rename_i h1
   split at h
   · rename_i h2;exact absurd h h2
   · rename_i h2;exact ⟨Decidable.not_not.1 h2,(aim_in (Decidable.not_not.1 h1)).1⟩
theorem take_item {l : List Slot} {a n : Int} (h : (takeS l a n).2.2 = 0) : 0 ≤ a ∧ a < l.length ∧ 1 ≤ (elt .slot l a.toNat).item ∧ (elt .slot l a.toNat).item ≤ 12:=by
 obtain ⟨n1,n2,n3,n4,n5,n6,n7,n8⟩:=takeS_n h
 have hb:=badSlot_false.1 (bagOk_iff.1 n4 _ (elt_mem (t:=.slot) (l:=l) (i:=a.toNat) (by omega)))
 refine ⟨n5,n6,?_⟩
 rcases hb with hb|hb
 · omega
 · have : 1 ≤ stackN (elt .slot l a.toNat).item:=by omega
   unfold stackN at this
   (repeat' split at this)<;>omega
theorem keep_law {w : Wld} (hR : RW w) (id : Int) (c : Cmd) {k : Nat} (hk : k < 13) : tw k (applyW w id c).1 = tw k w + elt .i64 (deltasW w id c) k:=by
 rcases apply_cases hR id c with ⟨h1,h2⟩|⟨h1,h2,_,p',h3,h4,h5,h6⟩|⟨h1,h2,h3,hp,hi,h4,h5⟩
 · rw [h2]
   have hd : deltasW w id c = zeros13:=by unfold deltasW;rw [if_pos h1]
   rw [hd,zeros_at k hk];exact (Int.add_zero _).symm
 · have hd : deltasW w id c = zeros13:=by
     unfold deltasW;rw [h6,if_neg (not_not_intro rfl),if_neg (by omega),if_neg (by omega),if_neg (by omega),if_neg (by omega)]
   rw [hd,zeros_at k hk,h6]
   have hg : getK pid w.players p'.id = none:=by
     rw [h3]
     rw [playerW_get hR] at h1
     cases hg : getK pid w.players id with
     | none=>rfl
     | some p=>rw [hg] at h1;simp at h1
   show tw k (withP w (setL w.players p')) = _
   rw [tw_set hR,hg]
   have : pc k p' = 0:=by
     rw [h4];unfold pc;dsimp only
     rw [newB8_count];rfl
   rw [this];show tw k w + 0 - 0 = tw k w + 0;omega
 · rw [h5]
   dsimp only
   unfold deltasW
   rw [h5,if_neg (not_not_intro rfl)]
   by_cases d3 : c.dol = 3
   · rw [if_pos d3]
     rw [actA_3 d3] at h4 ⊢
     obtain ⟨b1,b2,b3,b4⟩:=break_in hp.rw h4
     rw [break_count hp h4 k,one_at (gives_1 b2 b3 b4) 1 hk]
   · rw [if_neg d3]
     by_cases d4 : c.dol = 4
     · rw [if_pos d4]
       rw [actA_4 d4] at h4 ⊢
       obtain ⟨_,_,t1,t2⟩:=take_item (place_in h4).1
       rw [place_count hp h4 k,one_at ⟨t1,t2⟩ (-1) hk]
       unfold sel;split<;>omega
     · rw [if_neg d4]
       by_cases d10 : c.dol = 10
       · rw [if_pos d10]
         rw [actA_10 d10] at h4 ⊢
         rw [eat_count hp h4 k,one_at (by decide) (-1) hk]
         unfold sel;split<;>omega
       · rw [if_neg d10]
         by_cases d9 : c.dol = 9
         · rw [if_pos d9]
           rw [actA_9 d9] at h4 ⊢
           rw [craft_count hp h4 k]
           cases hr : recipeN c.c with
           | none=>dsimp only;rw [zeros_at k hk]
           | some r =>
             obtain ⟨W,M⟩:=r
             obtain ⟨r1,r2,r3,r4,r5,r6,r7⟩:=recipe_ok hr
             dsimp only
             have hW : ∀ s ∈ W,0 ≤ s.item ∧ s.item ≤ 12:=fun s hs=>by have:=r1 s hs;omega
             have hl : (subAll zeros13 W).length = 13:=subAll_len W zeros13
             have e1:=elt_addAt hl (i:=M.item) (by omega) M.n k
             have e2:=elt_subAll (C:=zeros13) rfl hW k
             rw [zeros_at k hk] at e2
             rw [e1,e2]
             by_cases hk0 : (k : Int) = 0
             · have : k = 0:=by omega
               subst this
               rw [if_neg (by omega)]
               have hz : sumF (fun s : Slot=>if 0 = s.item.toNat then s.n else 0) W = 0:=by
                 clear e1 e2 hl hr r6 r7 h4 h5
                 induction W with
                 | nil=>rfl
                 | cons s r ih =>
                   have:=r1 s (by simp)
                   simp only [sumF]
                   rw [ih (fun x hx=>r1 x (List.mem_cons_of_mem _ hx)) (fun x hx=>hW x (List.mem_cons_of_mem _ hx)),if_neg (by omega)];rfl
               rw [hz]
               show tw 0 w + (sel 0 M.item M.n - takesR W 0) = tw 0 w + (0 - 0)
               rw [takes_zero];unfold sel;simp
             · rw [sum_sel hW hk0]
               have hsel : sel k M.item M.n = if k = M.item.toNat then M.n else 0:=by
                 unfold sel
                 by_cases hm : k = M.item.toNat
                 · rw [if_pos hm,if_pos ⟨hk0,by omega⟩]
                 · rw [if_neg hm,if_neg (show ¬ (¬ (k : Int) = 0 ∧ M.item = k) from fun h=>hm (by omega))]
               rw [hsel]
               generalize takesR W k = T
               have hx : ∀ z T n : Int,∀ q : Prop,[Decidable q] → z + ((if q then n else 0) - T) = z + (if q then 0 - T + n else 0 - T):=by
                 intro z T n q _;split<;>omega
               exact hx _ _ _ _
         · rw [if_neg d9,zeros_at k hk,act_no hp h4 ⟨d3,d4,d9,d10⟩ k];exact (Int.add_zero _).symm
theorem apply_rightW {w : Wld} {id : Int} {c : Cmd} (h : (applyW w id c).2 = 0) : RW w:=by
 cases hR : rightW w with
 | true=>exact rightW_iff.1 hR
 | false=>unfold applyW at h;rw [if_pos hR] at h;simp at h
theorem deltas_api (w : Wld) (id : Int) (c : Cmd) (hw : OkW w) (hi : id ≤ 9223372036854775807) (hd : 0 ≤ c.dol ∧ c.dol ≤ 255) : Api Tryz.prog 39 [wldV w,i64 id,cmdV c] (.vec .i64 (deltasW w id c)):=by
 unfold deltasW
 by_cases he : (applyW w id c).2 = 0
 · rw [if_neg (not_not_intro he)]
   have hR:=apply_rightW he
   rcases apply_cases hR id c with ⟨h1,_⟩|⟨h1,h2,_⟩|⟨h1,h2,h3,hp,hi2,h4,h5⟩
   · exact absurd he h1
   · rw [if_neg (by omega),if_neg (by omega),if_neg (by omega),if_neg (by omega)]
     exact delta_no w id c hw hi hd he (by omega) (by omega) (by omega) (by omega)
   · by_cases d3 : c.dol = 3
     · rw [if_pos d3]
       rw [actA_3 d3] at h4
       obtain ⟨b1,b2,b3,b4⟩:=break_in hp.rw h4
       have hab:=rightD_place h3 (.inl d3)
       exact delta_3 w id c hw hi hd he d3 (by omega) (by omega)
     · rw [if_neg d3]
       by_cases d4 : c.dol = 4
       · rw [if_pos d4]
         rw [actA_4 d4] at h4
         obtain ⟨t1,t2,t3,t4⟩:=take_item (place_in h4).1
         exact delta_4 w id c hw hi hd he d4 ⟨t1,t2⟩ (by omega)
       · rw [if_neg d4]
         by_cases d10 : c.dol = 10
         · rw [if_pos d10];exact delta_10 w id c hw hi hd he d10
         · rw [if_neg d10]
           by_cases d9 : c.dol = 9
           · rw [if_pos d9]
             rw [actA_9 d9] at h4
             have hn : 0 ≤ c.c ∧ c.c < 7:=by
               by_cases hn : 0 ≤ c.c ∧ c.c < 7
               · exact hn
               · unfold craftA at h4
                 have hm : ¬ (makeS (playerW w id).1.bag c.c).2 = 0:=by
                   unfold makeS
                   rw [if_neg (by rw [hp.bag.2];simp),recipe_out hn];simp
                 rw [if_pos hm] at h4;exact absurd h4 hm
             rw [recipe_at hn.1 hn.2]
             exact delta_9 w id c hw hi hd he d9 hn
           · rw [if_neg d9];exact delta_no w id c hw hi hd he d3 d4 d10 d9
 · rw [if_pos he];exact delta_err w id c hw hi hd he
end Go.Proofs.YtkojlembanldcaaGreat
