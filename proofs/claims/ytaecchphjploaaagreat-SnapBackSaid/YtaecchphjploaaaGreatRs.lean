/- homesteadlaw20.SnapBack. -/
import Derived.Test.YtaecchphjploaaaGreatGt
import Derived.Test.YtaecchphjploaaaGreatGq
set_option linter.unusedSimpArgs false
set_option linter.unusedVariables false
set_option maxRecDepth 100000
set_option maxHeartbeats 16000000
namespace Go.Proofs.YtaecchphjploaaaGreat
open Go Go.RowKit Eng
abbrev zeroL : List AV:=[i64 0,i64 0,i64 0,i64 0,.lit (.slice none 0 0),i64 0,.lit (.slice none 0 0),.ff,.lit (.slice none 0 0),.lit (.slice none 0 0)]
abbrev viewKC (v : Viw) : List AV:=[i64 v.tick,i64 v.me.id,i64 v.me.x,i64 v.me.y,.vec .slot v.me.bag,i64 v.me.wth,.vec .slot v.me.offer,bol v.me.agrees,.vec .chunkK v.chunks,.vec .seen v.others]
theorem back_take {v : Viw} {b : List Int} (h : (takeY v b).2 = 0) : makeB v (takeY v b).1 = true ∧ makeY v (takeY v b).1 = b:=by
 cases hB : baseB v with
 | false =>
   have e : takeY v b = (emptyV,113):=if_pos hB
   rw [e] at h;cases h
 | true =>
   obtain ⟨w1,w2,w3,w4⟩:=take_ways (b:=b) hB
   by_cases c1 : (tkK v b).os.2.bad = true ∨ ¬ (tkK v b).os.2.pos = b.length
   · rw [w1 c1] at h;cases h
   · cases c2 : makeB v (takeN v b) with
     | false=>rw [w2 c2] at h;cases h
     | true =>
       by_cases c3 : makeY v (takeN v b) = b
       · rw [not_or] at c1
         rw [w4 (by simpa using c1.1) (Decidable.of_not_not c1.2) c2 c3]
         exact ⟨c2,c3⟩
       · rw [w3 c3] at h;cases h
theorem back_cells {v : Viw} (h : rightV v = true) : ∀ i : Nat,i < v.chunks.length → (elt .chunk v.chunks i).cells.length = 64:=by
 intro i hi
 unfold rightV at h
 simp only [Bool.and_eq_true,List.all_eq_true,List.mem_range] at h
 have h7:=h.1.2 i hi
 unfold okCh at h7
 rw [Bool.and_eq_true] at h7
 exact right_len h7.1
theorem sbackNo_api (a n : Viw) (b : List (El .u8)) (ha : OkV a) (hn : OkV n) (hg : greatV a = true ∨ greatV n = true ∨ 20000 < b.length) : Api Tryz.prog 8 [viewV a,viewV n,.vec .u8 b] (bol true):=by
 have haw:=awake20_api
 have h1:=greatV_api a ha
 have h2:=greatV_api n hn
 generalize greatV a = g1 at *
 generalize greatV n = g2 at *
 cases g1
 · cases g2
   · have hg : 20000 < b.length:=by simpa using hg
     refine Api.of_fin cfg_ok Tryz.func8 rfl (nt:=148) rfl rfl ?_
     ((repeat (first|(with_reducible refine evCut fun N hN hE hT=>?_)|(with_reducible refine evBlk fun N hN hE hT=>?_)));(try with_reducible refine evCnd fun X Y hX hY=>?_);(conv=>whnf))
     repeat' (first|exact trivial|((first|((first|refine hT _ _ ?_|refine hE _ _ _ ?_|refine hN _ _ ?_);clear hN hE hT)|((first|refine hX ?_|refine hY ?_);clear hX hY)|refine kL ?_|(refine ⟨fun hb=>?_,fun hb=>?_⟩<;>(try simp only [nrm] at hb)<;>(try (first|(exfalso;omega)|contradiction|exact kB hb)))|refine kA h1 ?_|refine kD h1 ?_|refine kA h2 ?_|refine kD h2 ?_|refine kA haw ?_|refine kD haw ?_|refine kW cfg_ok ?_|refine kC ?_|refine bdA ?_|refine bd2 ?_|refine bdR ?_|refine bdL ?_)<;>((repeat (first|(with_reducible refine evCut fun N hN hE hT=>?_)|(with_reducible refine evBlk fun N hN hE hT=>?_)));(try with_reducible refine evCnd fun X Y hX hY=>?_);(conv=>whnf)))|(refine And.intro ?_ ?_;rotate_left;(conv=>whnf);rotate_right))
   · clear hg
     refine Api.of_fin cfg_ok Tryz.func8 rfl (nt:=148) rfl rfl ?_
     ((repeat (first|(with_reducible refine evCut fun N hN hE hT=>?_)|(with_reducible refine evBlk fun N hN hE hT=>?_)));(try with_reducible refine evCnd fun X Y hX hY=>?_);(conv=>whnf))
     repeat' (first|exact trivial|((first|((first|refine hT _ _ ?_|refine hE _ _ _ ?_|refine hN _ _ ?_);clear hN hE hT)|((first|refine hX ?_|refine hY ?_);clear hX hY)|refine kL ?_|(refine ⟨fun hb=>?_,fun hb=>?_⟩<;>(try simp only [nrm] at hb)<;>(try (first|(exfalso;omega)|contradiction|exact kB hb)))|refine kA h1 ?_|refine kD h1 ?_|refine kA h2 ?_|refine kD h2 ?_|refine kA haw ?_|refine kD haw ?_|refine kW cfg_ok ?_|refine kC ?_|refine bdA ?_|refine bd2 ?_|refine bdR ?_|refine bdL ?_)<;>((repeat (first|(with_reducible refine evCut fun N hN hE hT=>?_)|(with_reducible refine evBlk fun N hN hE hT=>?_)));(try with_reducible refine evCnd fun X Y hX hY=>?_);(conv=>whnf)))|(refine And.intro ?_ ?_;rotate_left;(conv=>whnf);rotate_right))
 · clear hg
   refine Api.of_fin cfg_ok Tryz.func8 rfl (nt:=148) rfl rfl ?_
   ((repeat (first|(with_reducible refine evCut fun N hN hE hT=>?_)|(with_reducible refine evBlk fun N hN hE hT=>?_)));(try with_reducible refine evCnd fun X Y hX hY=>?_);(conv=>whnf))
   repeat' (first|exact trivial|((first|((first|refine hT _ _ ?_|refine hE _ _ _ ?_|refine hN _ _ ?_);clear hN hE hT)|((first|refine hX ?_|refine hY ?_);clear hX hY)|refine kL ?_|(refine ⟨fun hb=>?_,fun hb=>?_⟩<;>(try simp only [nrm] at hb)<;>(try (first|(exfalso;omega)|contradiction|exact kB hb)))|refine kA h1 ?_|refine kD h1 ?_|refine kA h2 ?_|refine kD h2 ?_|refine kA haw ?_|refine kD haw ?_|refine kW cfg_ok ?_|refine kC ?_|refine bdA ?_|refine bd2 ?_|refine bdR ?_|refine bdL ?_)<;>((repeat (first|(with_reducible refine evCut fun N hN hE hT=>?_)|(with_reducible refine evBlk fun N hN hE hT=>?_)));(try with_reducible refine evCnd fun X Y hX hY=>?_);(conv=>whnf)))|(refine And.intro ?_ ?_;rotate_left;(conv=>whnf);rotate_right))
theorem sbackIn_api (bs now : Viw) (b : List (El .u8)) (rn rf0 nf0 rf1 nf1 : Bool) (hnc : now.chunks.length * 88 ≤ 140737488351232) (hl : b.length ≤ 20000) (hga : Api Tryz.prog 40 [viewV bs] (bol false)) (hgn : Api Tryz.prog 40 [viewV now] (bol false)) (W : Viw) (e : Int) (hta : Api Tryz.prog 38 [viewV bs,.vec .u8 b] (.tup [viewV W,i64 e])) (hmw : e = 0 → Api Tryz.prog 37 [viewV bs,viewV W] (.tup [.vec .u8 b,i64 0]) ∧ Api Tryz.prog 43 [viewV W] (bol true)) (heq : Api Tryz.prog 34 [.vec .u8 b,.vec .u8 b] (bol true)) (hsm : Api Tryz.prog 39 [viewV now,viewV now] (bol true)) (hcl : rn = true → ∀ i : Nat,i < now.chunks.length → (elt .chunk now.chunks i).cells.length = 64) (h0 : ((Api Tryz.prog 37 [viewV bs,viewV now] (.tup [.vec .u8 [],i64 113])) ∧ (Api Tryz.prog 43 [viewV now] (bol rn)) ∧ (Api Tryz.prog 43 [viewV bs] (bol rf0)) ∧ (Api Tryz.prog 44 [viewV bs,.agg zeroL] (bol nf0)) ∧ (rn = true → rf0 = false ∧ nf0 = false)) ∨ (∃ x : List (El .u8),rn = true ∧ (Api Tryz.prog 37 [viewV bs,viewV now] (.tup [.vec .u8 x,i64 0])) ∧ (Api Tryz.prog 38 [viewV bs,.vec .u8 x] (.tup [viewSV now,i64 0])) ∧ (Api Tryz.prog 38 [viewV bs,.vec .u8 x] (.tup [viewV now,i64 0])))) (h1 : ((Api Tryz.prog 37 [.agg zeroL,viewV now] (.tup [.vec .u8 [],i64 113])) ∧ (Api Tryz.prog 43 [viewV now] (bol rn)) ∧ (Api Tryz.prog 43 [.agg zeroL] (bol rf1)) ∧ (Api Tryz.prog 44 [.agg zeroL,.agg zeroL] (bol nf1)) ∧ (rn = true → rf1 = false ∧ nf1 = false)) ∨ (∃ x : List (El .u8),rn = true ∧ (Api Tryz.prog 37 [.agg zeroL,viewV now] (.tup [.vec .u8 x,i64 0])) ∧ (Api Tryz.prog 38 [.agg zeroL,.vec .u8 x] (.tup [viewSV now,i64 0])) ∧ (Api Tryz.prog 38 [.agg zeroL,.vec .u8 x] (.tup [viewV now,i64 0])))) : Api Tryz.prog 8 [viewV bs,viewV now,.vec .u8 b] (bol true):=by
 have haw:=awake20_api
 rcases Classical.em (e = 0) with he|he
 · obtain ⟨q1,q2⟩:=hmw he
   subst he
   clear hmw
   refine Api.of_fin cfg_ok Tryz.func8 rfl (nt:=148) rfl rfl ?_
   ((repeat (first|(with_reducible refine evCut fun N hN hE hT=>?_)|(with_reducible refine evBlk fun N hN hE hT=>?_)));(try with_reducible refine evCnd fun X Y hX hY=>?_);(conv=>whnf))
   repeat' (first|exact trivial|((first|((first|refine hT _ _ ?_|refine hE _ _ _ ?_|refine hN _ _ ?_);clear hN hE hT)|((first|refine hX ?_|refine hY ?_);clear hX hY)|refine kL ?_|(refine ⟨fun hb=>?_,fun hb=>?_⟩<;>(try simp only [nrm] at hb)<;>(try (first|(exfalso;omega)|contradiction|exact kB hb)))|refine kA hga ?_|refine kD hga ?_|refine kA hgn ?_|refine kD hgn ?_|refine kA hta ?_|refine kD hta ?_|refine kA q1 ?_|refine kD q1 ?_|refine kA q2 ?_|refine kD q2 ?_|refine kA heq ?_|refine kD heq ?_|refine kW cfg_ok ?_|refine kC ?_|refine bdA ?_|refine bd2 ?_|refine bdR ?_|refine bdL ?_)<;>((repeat (first|(with_reducible refine evCut fun N hN hE hT=>?_)|(with_reducible refine evBlk fun N hN hE hT=>?_)));(try with_reducible refine evCnd fun X Y hX hY=>?_);(conv=>whnf)))|(refine And.intro ?_ ?_;rotate_left;(conv=>whnf);rotate_right))
   all_goals try (first|omega|(exfalso;omega))
   clear hga hgn hta q1 q2 heq
   refine Runs.loopS cfg_ok (σ:=Nat) [4,62,63] (fun k=>[.ptr 8 0,.agg (viewC bs ++ (zeroL ++ [])),i64 (k : Nat)]) (fun k=>[(8,.box (viewC now))])
     (fun k=>k ≤ 2) (fun k=>2 - k) 0 (by omega) ?_ ?_
   · conv=>whnf
     repeat' (first|exact trivial|((first|((first|refine hT _ _ ?_|refine hE _ _ _ ?_|refine hN _ _ ?_);clear hN hE hT)|((first|refine hX ?_|refine hY ?_);clear hX hY)|refine kL ?_|(refine ⟨fun hb=>?_,fun hb=>?_⟩<;>(try simp only [nrm] at hb)<;>(try (first|(exfalso;omega)|contradiction|exact kB hb)))|refine kW cfg_ok ?_|refine kC ?_|refine bdA ?_|refine bd2 ?_|refine bdR ?_|refine bdL ?_)<;>((repeat (first|(with_reducible refine evCut fun N hN hE hT=>?_)|(with_reducible refine evBlk fun N hN hE hT=>?_)));(try with_reducible refine evCnd fun X Y hX hY=>?_);(conv=>whnf)))|(refine And.intro ?_ ?_;rotate_left;(conv=>whnf);rotate_right))
     all_goals first|rfl|omega|trace_state
   · intro k hk
     match k,hk with
     | 0,_ =>
       rcases h0 with ⟨g1,g2,g3,g4,g5⟩|⟨x,r1,g1,g2,g3⟩
       · cases rn with
         | false =>
           conv=>whnf
           repeat' (first|exact trivial|((first|((first|refine hT _ _ ?_|refine hE _ _ _ ?_|refine hN _ _ ?_);clear hN hE hT)|((first|refine hX ?_|refine hY ?_);clear hX hY)|refine kL ?_|(refine ⟨fun hb=>?_,fun hb=>?_⟩<;>(try simp only [nrm] at hb)<;>(try (first|(exfalso;omega)|contradiction|exact kB hb)))|refine kA g1 ?_|refine kD g1 ?_|refine kA g2 ?_|refine kD g2 ?_|refine kW cfg_ok ?_|refine kC ?_|refine bdA ?_|refine bd2 ?_|refine bdR ?_|refine bdL ?_)<;>((repeat (first|(with_reducible refine evCut fun N hN hE hT=>?_)|(with_reducible refine evBlk fun N hN hE hT=>?_)));(try with_reducible refine evCnd fun X Y hX hY=>?_);(conv=>whnf)))|(refine And.intro ?_ ?_;rotate_left;(conv=>whnf);rotate_right))
           all_goals try (first|omega|(exfalso;omega))
           refine .to 1 (by omega) (by omega) ?_
           conv=>whnf
           repeat' (first|exact trivial|((first|((first|refine hT _ _ ?_|refine hE _ _ _ ?_|refine hN _ _ ?_);clear hN hE hT)|((first|refine hX ?_|refine hY ?_);clear hX hY)|refine kL ?_|(refine ⟨fun hb=>?_,fun hb=>?_⟩<;>(try simp only [nrm] at hb)<;>(try (first|(exfalso;omega)|contradiction|exact kB hb)))|refine kW cfg_ok ?_|refine kC ?_|refine bdA ?_|refine bd2 ?_|refine bdR ?_|refine bdL ?_)<;>((repeat (first|(with_reducible refine evCut fun N hN hE hT=>?_)|(with_reducible refine evBlk fun N hN hE hT=>?_)));(try with_reducible refine evCnd fun X Y hX hY=>?_);(conv=>whnf)))|(refine And.intro ?_ ?_;rotate_left;(conv=>whnf);rotate_right))
           all_goals first|rfl|omega|trace_state
         | true =>
           obtain ⟨e1,e2⟩:=g5 rfl
           subst e1 e2
           conv=>whnf
           repeat' (first|exact trivial|((first|((first|refine hT _ _ ?_|refine hE _ _ _ ?_|refine hN _ _ ?_);clear hN hE hT)|((first|refine hX ?_|refine hY ?_);clear hX hY)|refine kL ?_|(refine ⟨fun hb=>?_,fun hb=>?_⟩<;>(try simp only [nrm] at hb)<;>(try (first|(exfalso;omega)|contradiction|exact kB hb)))|refine kA g1 ?_|refine kD g1 ?_|refine kA g2 ?_|refine kD g2 ?_|refine kA g3 ?_|refine kD g3 ?_|refine kA g4 ?_|refine kD g4 ?_|refine kW cfg_ok ?_|refine kC ?_|refine bdA ?_|refine bd2 ?_|refine bdR ?_|refine bdL ?_)<;>((repeat (first|(with_reducible refine evCut fun N hN hE hT=>?_)|(with_reducible refine evBlk fun N hN hE hT=>?_)));(try with_reducible refine evCnd fun X Y hX hY=>?_);(conv=>whnf)))|(refine And.intro ?_ ?_;rotate_left;(conv=>whnf);rotate_right))
           all_goals try (first|omega|(exfalso;omega))
           all_goals
             refine .to 1 (by omega) (by omega) ?_
             conv=>whnf
             repeat' (first|exact trivial|((first|((first|refine hT _ _ ?_|refine hE _ _ _ ?_|refine hN _ _ ?_);clear hN hE hT)|((first|refine hX ?_|refine hY ?_);clear hX hY)|refine kL ?_|(refine ⟨fun hb=>?_,fun hb=>?_⟩<;>(try simp only [nrm] at hb)<;>(try (first|(exfalso;omega)|contradiction|exact kB hb)))|refine kW cfg_ok ?_|refine kC ?_|refine bdA ?_|refine bd2 ?_|refine bdR ?_|refine bdL ?_)<;>((repeat (first|(with_reducible refine evCut fun N hN hE hT=>?_)|(with_reducible refine evBlk fun N hN hE hT=>?_)));(try with_reducible refine evCnd fun X Y hX hY=>?_);(conv=>whnf)))|(refine And.intro ?_ ?_;rotate_left;(conv=>whnf);rotate_right))
             all_goals first|rfl|omega|trace_state
       · conv=>whnf
         repeat' (first|exact trivial|((first|((first|refine hT _ _ ?_|refine hE _ _ _ ?_|refine hN _ _ ?_);clear hN hE hT)|((first|refine hX ?_|refine hY ?_);clear hX hY)|refine kL ?_|(refine ⟨fun hb=>?_,fun hb=>?_⟩<;>(try simp only [nrm] at hb)<;>(try (first|(exfalso;omega)|contradiction|exact kB hb)))|refine kA g1 ?_|refine kD g1 ?_|refine kW cfg_ok ?_|refine kC ?_|refine bdA ?_|refine bd2 ?_|refine bdR ?_|refine bdL ?_)<;>((repeat (first|(with_reducible refine evCut fun N hN hE hT=>?_)|(with_reducible refine evBlk fun N hN hE hT=>?_)));(try with_reducible refine evCnd fun X Y hX hY=>?_);(conv=>whnf)))|(refine And.intro ?_ ?_;rotate_left;(conv=>whnf);rotate_right))
         all_goals try (first|omega|(exfalso;omega))
         refine kA g2 ?_
         conv=>whnf
         repeat' (first|exact trivial|((first|((first|refine hT _ _ ?_|refine hE _ _ _ ?_|refine hN _ _ ?_);clear hN hE hT)|((first|refine hX ?_|refine hY ?_);clear hX hY)|refine kL ?_|(refine ⟨fun hb=>?_,fun hb=>?_⟩<;>(try simp only [nrm] at hb)<;>(try (first|(exfalso;omega)|contradiction|exact kB hb)))|(refine kU hsm ?_ rfl rfl rfl)|(refine kUD hsm ?_ rfl rfl rfl)|refine kW cfg_ok ?_|refine kC ?_|refine bdA ?_|refine bd2 ?_|refine bdR ?_|refine bdL ?_)<;>((repeat (first|(with_reducible refine evCut fun N hN hE hT=>?_)|(with_reducible refine evBlk fun N hN hE hT=>?_)));(try with_reducible refine evCnd fun X Y hX hY=>?_);(conv=>whnf)))|(refine And.intro ?_ ?_;rotate_left;(conv=>whnf);rotate_right))
         all_goals try (first|omega|(exfalso;omega))
         refine Runs.burn ?_
         refine Runs.loopS cfg_ok (σ:=Nat) [4,12,13,15,62,63,111,112] (fun i=>[.ptr 8 0,.ptr 24 0,.vec .u8 x,.ptr 30 0,.agg (viewC bs ++ (zeroL ++ [])),i64 0,i64 now.chunks.length,i64 i])
           (fun i=>[(8,.box (viewC now)),(24,.box (viewC bs)),(30,.box (viewKC now))])
           (fun i=>i ≤ now.chunks.length) (fun i=>now.chunks.length - i) 0 (by omega) ?_ ?_
         · conv=>whnf
           repeat' (first|exact trivial|((first|((first|refine hT _ _ ?_|refine hE _ _ _ ?_|refine hN _ _ ?_);clear hN hE hT)|((first|refine hX ?_|refine hY ?_);clear hX hY)|refine kL ?_|(refine ⟨fun hb=>?_,fun hb=>?_⟩<;>(try simp only [nrm] at hb)<;>(try (first|(exfalso;omega)|contradiction|exact kB hb)))|refine kW cfg_ok ?_|refine kC ?_|refine bdA ?_|refine bd2 ?_|refine bdR ?_|refine bdL ?_)<;>((repeat (first|(with_reducible refine evCut fun N hN hE hT=>?_)|(with_reducible refine evBlk fun N hN hE hT=>?_)));(try with_reducible refine evCnd fun X Y hX hY=>?_);(conv=>whnf)))|(refine And.intro ?_ ?_;rotate_left;(conv=>whnf);rotate_right))
           all_goals first|rfl|omega|trace_state
         · intro i hi
           by_cases hli : i < now.chunks.length
           · have hc1:=hcl r1 i hli
             have hd1 : (elt .chunkK now.chunks ((i : Nat) : Int).toNat).cells.length = 64:=hc1
             conv=>whnf
             repeat' (first|exact trivial|((first|((first|refine hT _ _ ?_|refine hE _ _ _ ?_|refine hN _ _ ?_);clear hN hE hT)|((first|refine hX ?_|refine hY ?_);clear hX hY)|refine kL ?_|(refine ⟨fun hb=>?_,fun hb=>?_⟩<;>(try simp only [nrm] at hb)<;>(try (first|(exfalso;omega)|contradiction|exact kB hb)))|refine kW cfg_ok ?_|refine kC ?_|refine bdA ?_|refine bd2 ?_|refine bdR ?_|refine bdL ?_)<;>((repeat (first|(with_reducible refine evCut fun N hN hE hT=>?_)|(with_reducible refine evBlk fun N hN hE hT=>?_)));(try with_reducible refine evCnd fun X Y hX hY=>?_);(conv=>whnf)))|(refine And.intro ?_ ?_;rotate_left;(conv=>whnf);rotate_right))
             all_goals try (first|omega|(exfalso;omega))
             refine Runs.loopS cfg_ok (σ:=Nat) [4,12,13,15,17,62,63,111,112,121,122] (fun k=>[.ptr 8 0,.ptr 24 0,.vec .u8 x,.ptr 30 0,i64 i,.agg (viewC bs ++ (zeroL ++ [])),i64 0,i64 now.chunks.length,i64 i,i64 (elt .chunk now.chunks i).cells.length,i64 k])
               (fun k=>[(8,.box (viewC now)),(24,.box (viewC bs)),(30,.box (viewKC now))])
               (fun k=>k ≤ (elt .chunk now.chunks i).cells.length) (fun k=>(elt .chunk now.chunks i).cells.length - k) 0 (by omega) ?_ ?_
             · conv=>whnf
               repeat' (first|exact trivial|((first|((first|refine hT _ _ ?_|refine hE _ _ _ ?_|refine hN _ _ ?_);clear hN hE hT)|((first|refine hX ?_|refine hY ?_);clear hX hY)|refine kL ?_|(refine ⟨fun hb=>?_,fun hb=>?_⟩<;>(try simp only [nrm] at hb)<;>(try (first|(exfalso;omega)|contradiction|exact kB hb)))|refine kW cfg_ok ?_|refine kC ?_|refine bdA ?_|refine bd2 ?_|refine bdR ?_|refine bdL ?_)<;>((repeat (first|(with_reducible refine evCut fun N hN hE hT=>?_)|(with_reducible refine evBlk fun N hN hE hT=>?_)));(try with_reducible refine evCnd fun X Y hX hY=>?_);(conv=>whnf)))|(refine And.intro ?_ ?_;rotate_left;(conv=>whnf);rotate_right))
               all_goals first|rfl|omega|trace_state
             · intro k hk
               by_cases hlk : k < (elt .chunk now.chunks i).cells.length
               · conv=>whnf
                 repeat' (first|exact trivial|((first|((first|refine hT _ _ ?_|refine hE _ _ _ ?_|refine hN _ _ ?_);clear hN hE hT)|((first|refine hX ?_|refine hY ?_);clear hX hY)|refine kL ?_|(refine ⟨fun hb=>?_,fun hb=>?_⟩<;>(try simp only [nrm] at hb)<;>(try (first|(exfalso;omega)|contradiction|exact kB hb)))|refine kW cfg_ok ?_|refine kC ?_|refine bdA ?_|refine bd2 ?_|refine bdR ?_|refine bdL ?_)<;>((repeat (first|(with_reducible refine evCut fun N hN hE hT=>?_)|(with_reducible refine evBlk fun N hN hE hT=>?_)));(try with_reducible refine evCnd fun X Y hX hY=>?_);(conv=>whnf)))|(refine And.intro ?_ ?_;rotate_left;(conv=>whnf);rotate_right))
                 all_goals try (first|omega|(exfalso;omega))
                 refine .to (k + 1) (by omega) (by omega) ?_
                 conv=>whnf
                 repeat' (first|exact trivial|((first|((first|refine hT _ _ ?_|refine hE _ _ _ ?_|refine hN _ _ ?_);clear hN hE hT)|((first|refine hX ?_|refine hY ?_);clear hX hY)|refine kL ?_|(refine ⟨fun hb=>?_,fun hb=>?_⟩<;>(try simp only [nrm] at hb)<;>(try (first|(exfalso;omega)|contradiction|exact kB hb)))|refine kW cfg_ok ?_|refine kC ?_|refine bdA ?_|refine bd2 ?_|refine bdR ?_|refine bdL ?_)<;>((repeat (first|(with_reducible refine evCut fun N hN hE hT=>?_)|(with_reducible refine evBlk fun N hN hE hT=>?_)));(try with_reducible refine evCnd fun X Y hX hY=>?_);(conv=>whnf)))|(refine And.intro ?_ ?_;rotate_left;(conv=>whnf);rotate_right))
                 all_goals first|rfl|omega|trace_state
               · obtain rfl : k = (elt .chunk now.chunks i).cells.length:=by omega
                 conv=>whnf
                 repeat' (first|exact trivial|((first|((first|refine hT _ _ ?_|refine hE _ _ _ ?_|refine hN _ _ ?_);clear hN hE hT)|((first|refine hX ?_|refine hY ?_);clear hX hY)|refine kL ?_|(refine ⟨fun hb=>?_,fun hb=>?_⟩<;>(try simp only [nrm] at hb)<;>(try (first|(exfalso;omega)|contradiction|exact kB hb)))|refine kW cfg_ok ?_|refine kC ?_|refine bdA ?_|refine bd2 ?_|refine bdR ?_|refine bdL ?_)<;>((repeat (first|(with_reducible refine evCut fun N hN hE hT=>?_)|(with_reducible refine evBlk fun N hN hE hT=>?_)));(try with_reducible refine evCnd fun X Y hX hY=>?_);(conv=>whnf)))|(refine And.intro ?_ ?_;rotate_left;(conv=>whnf);rotate_right))
                 all_goals try (first|omega|(exfalso;omega))
                 refine .to (i + 1) (by omega) (by omega) ?_
                 conv=>whnf
                 repeat' (first|exact trivial|((first|((first|refine hT _ _ ?_|refine hE _ _ _ ?_|refine hN _ _ ?_);clear hN hE hT)|((first|refine hX ?_|refine hY ?_);clear hX hY)|refine kL ?_|(refine ⟨fun hb=>?_,fun hb=>?_⟩<;>(try simp only [nrm] at hb)<;>(try (first|(exfalso;omega)|contradiction|exact kB hb)))|refine kW cfg_ok ?_|refine kC ?_|refine bdA ?_|refine bd2 ?_|refine bdR ?_|refine bdL ?_)<;>((repeat (first|(with_reducible refine evCut fun N hN hE hT=>?_)|(with_reducible refine evBlk fun N hN hE hT=>?_)));(try with_reducible refine evCnd fun X Y hX hY=>?_);(conv=>whnf)))|(refine And.intro ?_ ?_;rotate_left;(conv=>whnf);rotate_right))
                 all_goals first|rfl|omega|trace_state
           · obtain rfl : i = now.chunks.length:=by omega
             conv=>whnf
             repeat' (first|exact trivial|((first|((first|refine hT _ _ ?_|refine hE _ _ _ ?_|refine hN _ _ ?_);clear hN hE hT)|((first|refine hX ?_|refine hY ?_);clear hX hY)|refine kL ?_|(refine ⟨fun hb=>?_,fun hb=>?_⟩<;>(try simp only [nrm] at hb)<;>(try (first|(exfalso;omega)|contradiction|exact kB hb)))|refine kA g3 ?_|refine kD g3 ?_|refine kA hsm ?_|refine kD hsm ?_|refine kW cfg_ok ?_|refine kC ?_|refine bdA ?_|refine bd2 ?_|refine bdR ?_|refine bdL ?_)<;>((repeat (first|(with_reducible refine evCut fun N hN hE hT=>?_)|(with_reducible refine evBlk fun N hN hE hT=>?_)));(try with_reducible refine evCnd fun X Y hX hY=>?_);(conv=>whnf)))|(refine And.intro ?_ ?_;rotate_left;(conv=>whnf);rotate_right))
             all_goals try (first|omega|(exfalso;omega))
             refine .to 1 (by omega) (by omega) ?_
             conv=>whnf
             repeat' (first|exact trivial|((first|((first|refine hT _ _ ?_|refine hE _ _ _ ?_|refine hN _ _ ?_);clear hN hE hT)|((first|refine hX ?_|refine hY ?_);clear hX hY)|refine kL ?_|(refine ⟨fun hb=>?_,fun hb=>?_⟩<;>(try simp only [nrm] at hb)<;>(try (first|(exfalso;omega)|contradiction|exact kB hb)))|refine kW cfg_ok ?_|refine kC ?_|refine bdA ?_|refine bd2 ?_|refine bdR ?_|refine bdL ?_)<;>((repeat (first|(with_reducible refine evCut fun N hN hE hT=>?_)|(with_reducible refine evBlk fun N hN hE hT=>?_)));(try with_reducible refine evCnd fun X Y hX hY=>?_);(conv=>whnf)))|(refine And.intro ?_ ?_;rotate_left;(conv=>whnf);rotate_right))
             all_goals first|rfl|omega|trace_state
     | 1,_ =>
       rcases h1 with ⟨g1,g2,g3,g4,g5⟩|⟨x,r1,g1,g2,g3⟩
       · cases rn with
         | false =>
           conv=>whnf
           repeat' (first|exact trivial|((first|((first|refine hT _ _ ?_|refine hE _ _ _ ?_|refine hN _ _ ?_);clear hN hE hT)|((first|refine hX ?_|refine hY ?_);clear hX hY)|refine kL ?_|(refine ⟨fun hb=>?_,fun hb=>?_⟩<;>(try simp only [nrm] at hb)<;>(try (first|(exfalso;omega)|contradiction|exact kB hb)))|refine kA g1 ?_|refine kD g1 ?_|refine kA g2 ?_|refine kD g2 ?_|refine kW cfg_ok ?_|refine kC ?_|refine bdA ?_|refine bd2 ?_|refine bdR ?_|refine bdL ?_)<;>((repeat (first|(with_reducible refine evCut fun N hN hE hT=>?_)|(with_reducible refine evBlk fun N hN hE hT=>?_)));(try with_reducible refine evCnd fun X Y hX hY=>?_);(conv=>whnf)))|(refine And.intro ?_ ?_;rotate_left;(conv=>whnf);rotate_right))
           all_goals try (first|omega|(exfalso;omega))
           refine .to 2 (by omega) (by omega) ?_
           conv=>whnf
           repeat' (first|exact trivial|((first|((first|refine hT _ _ ?_|refine hE _ _ _ ?_|refine hN _ _ ?_);clear hN hE hT)|((first|refine hX ?_|refine hY ?_);clear hX hY)|refine kL ?_|(refine ⟨fun hb=>?_,fun hb=>?_⟩<;>(try simp only [nrm] at hb)<;>(try (first|(exfalso;omega)|contradiction|exact kB hb)))|refine kW cfg_ok ?_|refine kC ?_|refine bdA ?_|refine bd2 ?_|refine bdR ?_|refine bdL ?_)<;>((repeat (first|(with_reducible refine evCut fun N hN hE hT=>?_)|(with_reducible refine evBlk fun N hN hE hT=>?_)));(try with_reducible refine evCnd fun X Y hX hY=>?_);(conv=>whnf)))|(refine And.intro ?_ ?_;rotate_left;(conv=>whnf);rotate_right))
           all_goals first|rfl|omega|trace_state
         | true =>
           obtain ⟨e1,e2⟩:=g5 rfl
           subst e1 e2
           conv=>whnf
           repeat' (first|exact trivial|((first|((first|refine hT _ _ ?_|refine hE _ _ _ ?_|refine hN _ _ ?_);clear hN hE hT)|((first|refine hX ?_|refine hY ?_);clear hX hY)|refine kL ?_|(refine ⟨fun hb=>?_,fun hb=>?_⟩<;>(try simp only [nrm] at hb)<;>(try (first|(exfalso;omega)|contradiction|exact kB hb)))|refine kA g1 ?_|refine kD g1 ?_|refine kA g2 ?_|refine kD g2 ?_|refine kA g3 ?_|refine kD g3 ?_|refine kA g4 ?_|refine kD g4 ?_|refine kW cfg_ok ?_|refine kC ?_|refine bdA ?_|refine bd2 ?_|refine bdR ?_|refine bdL ?_)<;>((repeat (first|(with_reducible refine evCut fun N hN hE hT=>?_)|(with_reducible refine evBlk fun N hN hE hT=>?_)));(try with_reducible refine evCnd fun X Y hX hY=>?_);(conv=>whnf)))|(refine And.intro ?_ ?_;rotate_left;(conv=>whnf);rotate_right))
           all_goals try (first|omega|(exfalso;omega))
           all_goals
             refine .to 2 (by omega) (by omega) ?_
             conv=>whnf
             repeat' (first|exact trivial|((first|((first|refine hT _ _ ?_|refine hE _ _ _ ?_|refine hN _ _ ?_);clear hN hE hT)|((first|refine hX ?_|refine hY ?_);clear hX hY)|refine kL ?_|(refine ⟨fun hb=>?_,fun hb=>?_⟩<;>(try simp only [nrm] at hb)<;>(try (first|(exfalso;omega)|contradiction|exact kB hb)))|refine kW cfg_ok ?_|refine kC ?_|refine bdA ?_|refine bd2 ?_|refine bdR ?_|refine bdL ?_)<;>((repeat (first|(with_reducible refine evCut fun N hN hE hT=>?_)|(with_reducible refine evBlk fun N hN hE hT=>?_)));(try with_reducible refine evCnd fun X Y hX hY=>?_);(conv=>whnf)))|(refine And.intro ?_ ?_;rotate_left;(conv=>whnf);rotate_right))
             all_goals first|rfl|omega|trace_state
       · conv=>whnf
         repeat' (first|exact trivial|((first|((first|refine hT _ _ ?_|refine hE _ _ _ ?_|refine hN _ _ ?_);clear hN hE hT)|((first|refine hX ?_|refine hY ?_);clear hX hY)|refine kL ?_|(refine ⟨fun hb=>?_,fun hb=>?_⟩<;>(try simp only [nrm] at hb)<;>(try (first|(exfalso;omega)|contradiction|exact kB hb)))|refine kA g1 ?_|refine kD g1 ?_|refine kW cfg_ok ?_|refine kC ?_|refine bdA ?_|refine bd2 ?_|refine bdR ?_|refine bdL ?_)<;>((repeat (first|(with_reducible refine evCut fun N hN hE hT=>?_)|(with_reducible refine evBlk fun N hN hE hT=>?_)));(try with_reducible refine evCnd fun X Y hX hY=>?_);(conv=>whnf)))|(refine And.intro ?_ ?_;rotate_left;(conv=>whnf);rotate_right))
         all_goals try (first|omega|(exfalso;omega))
         refine kA g2 ?_
         conv=>whnf
         repeat' (first|exact trivial|((first|((first|refine hT _ _ ?_|refine hE _ _ _ ?_|refine hN _ _ ?_);clear hN hE hT)|((first|refine hX ?_|refine hY ?_);clear hX hY)|refine kL ?_|(refine ⟨fun hb=>?_,fun hb=>?_⟩<;>(try simp only [nrm] at hb)<;>(try (first|(exfalso;omega)|contradiction|exact kB hb)))|(refine kU hsm ?_ rfl rfl rfl)|(refine kUD hsm ?_ rfl rfl rfl)|refine kW cfg_ok ?_|refine kC ?_|refine bdA ?_|refine bd2 ?_|refine bdR ?_|refine bdL ?_)<;>((repeat (first|(with_reducible refine evCut fun N hN hE hT=>?_)|(with_reducible refine evBlk fun N hN hE hT=>?_)));(try with_reducible refine evCnd fun X Y hX hY=>?_);(conv=>whnf)))|(refine And.intro ?_ ?_;rotate_left;(conv=>whnf);rotate_right))
         all_goals try (first|omega|(exfalso;omega))
         refine Runs.burn ?_
         refine Runs.loopS cfg_ok (σ:=Nat) [4,12,13,15,62,63,111,112] (fun i=>[.ptr 8 0,.ptr 24 0,.vec .u8 x,.ptr 30 0,.agg (viewC bs ++ (zeroL ++ [])),i64 1,i64 now.chunks.length,i64 i])
           (fun i=>[(8,.box (viewC now)),(24,.box zeroL),(30,.box (viewKC now))])
           (fun i=>i ≤ now.chunks.length) (fun i=>now.chunks.length - i) 0 (by omega) ?_ ?_
         · conv=>whnf
           repeat' (first|exact trivial|((first|((first|refine hT _ _ ?_|refine hE _ _ _ ?_|refine hN _ _ ?_);clear hN hE hT)|((first|refine hX ?_|refine hY ?_);clear hX hY)|refine kL ?_|(refine ⟨fun hb=>?_,fun hb=>?_⟩<;>(try simp only [nrm] at hb)<;>(try (first|(exfalso;omega)|contradiction|exact kB hb)))|refine kW cfg_ok ?_|refine kC ?_|refine bdA ?_|refine bd2 ?_|refine bdR ?_|refine bdL ?_)<;>((repeat (first|(with_reducible refine evCut fun N hN hE hT=>?_)|(with_reducible refine evBlk fun N hN hE hT=>?_)));(try with_reducible refine evCnd fun X Y hX hY=>?_);(conv=>whnf)))|(refine And.intro ?_ ?_;rotate_left;(conv=>whnf);rotate_right))
           all_goals first|rfl|omega|trace_state
         · intro i hi
           by_cases hli : i < now.chunks.length
           · have hc1:=hcl r1 i hli
             have hd1 : (elt .chunkK now.chunks ((i : Nat) : Int).toNat).cells.length = 64:=hc1
             conv=>whnf
             repeat' (first|exact trivial|((first|((first|refine hT _ _ ?_|refine hE _ _ _ ?_|refine hN _ _ ?_);clear hN hE hT)|((first|refine hX ?_|refine hY ?_);clear hX hY)|refine kL ?_|(refine ⟨fun hb=>?_,fun hb=>?_⟩<;>(try simp only [nrm] at hb)<;>(try (first|(exfalso;omega)|contradiction|exact kB hb)))|refine kW cfg_ok ?_|refine kC ?_|refine bdA ?_|refine bd2 ?_|refine bdR ?_|refine bdL ?_)<;>((repeat (first|(with_reducible refine evCut fun N hN hE hT=>?_)|(with_reducible refine evBlk fun N hN hE hT=>?_)));(try with_reducible refine evCnd fun X Y hX hY=>?_);(conv=>whnf)))|(refine And.intro ?_ ?_;rotate_left;(conv=>whnf);rotate_right))
             all_goals try (first|omega|(exfalso;omega))
             refine Runs.loopS cfg_ok (σ:=Nat) [4,12,13,15,17,62,63,111,112,121,122] (fun k=>[.ptr 8 0,.ptr 24 0,.vec .u8 x,.ptr 30 0,i64 i,.agg (viewC bs ++ (zeroL ++ [])),i64 1,i64 now.chunks.length,i64 i,i64 (elt .chunk now.chunks i).cells.length,i64 k])
               (fun k=>[(8,.box (viewC now)),(24,.box zeroL),(30,.box (viewKC now))])
               (fun k=>k ≤ (elt .chunk now.chunks i).cells.length) (fun k=>(elt .chunk now.chunks i).cells.length - k) 0 (by omega) ?_ ?_
             · conv=>whnf
               repeat' (first|exact trivial|((first|((first|refine hT _ _ ?_|refine hE _ _ _ ?_|refine hN _ _ ?_);clear hN hE hT)|((first|refine hX ?_|refine hY ?_);clear hX hY)|refine kL ?_|(refine ⟨fun hb=>?_,fun hb=>?_⟩<;>(try simp only [nrm] at hb)<;>(try (first|(exfalso;omega)|contradiction|exact kB hb)))|refine kW cfg_ok ?_|refine kC ?_|refine bdA ?_|refine bd2 ?_|refine bdR ?_|refine bdL ?_)<;>((repeat (first|(with_reducible refine evCut fun N hN hE hT=>?_)|(with_reducible refine evBlk fun N hN hE hT=>?_)));(try with_reducible refine evCnd fun X Y hX hY=>?_);(conv=>whnf)))|(refine And.intro ?_ ?_;rotate_left;(conv=>whnf);rotate_right))
               all_goals first|rfl|omega|trace_state
             · intro k hk
               by_cases hlk : k < (elt .chunk now.chunks i).cells.length
               · conv=>whnf
                 repeat' (first|exact trivial|((first|((first|refine hT _ _ ?_|refine hE _ _ _ ?_|refine hN _ _ ?_);clear hN hE hT)|((first|refine hX ?_|refine hY ?_);clear hX hY)|refine kL ?_|(refine ⟨fun hb=>?_,fun hb=>?_⟩<;>(try simp only [nrm] at hb)<;>(try (first|(exfalso;omega)|contradiction|exact kB hb)))|refine kW cfg_ok ?_|refine kC ?_|refine bdA ?_|refine bd2 ?_|refine bdR ?_|refine bdL ?_)<;>((repeat (first|(with_reducible refine evCut fun N hN hE hT=>?_)|(with_reducible refine evBlk fun N hN hE hT=>?_)));(try with_reducible refine evCnd fun X Y hX hY=>?_);(conv=>whnf)))|(refine And.intro ?_ ?_;rotate_left;(conv=>whnf);rotate_right))
                 all_goals try (first|omega|(exfalso;omega))
                 refine .to (k + 1) (by omega) (by omega) ?_
                 conv=>whnf
                 repeat' (first|exact trivial|((first|((first|refine hT _ _ ?_|refine hE _ _ _ ?_|refine hN _ _ ?_);clear hN hE hT)|((first|refine hX ?_|refine hY ?_);clear hX hY)|refine kL ?_|(refine ⟨fun hb=>?_,fun hb=>?_⟩<;>(try simp only [nrm] at hb)<;>(try (first|(exfalso;omega)|contradiction|exact kB hb)))|refine kW cfg_ok ?_|refine kC ?_|refine bdA ?_|refine bd2 ?_|refine bdR ?_|refine bdL ?_)<;>((repeat (first|(with_reducible refine evCut fun N hN hE hT=>?_)|(with_reducible refine evBlk fun N hN hE hT=>?_)));(try with_reducible refine evCnd fun X Y hX hY=>?_);(conv=>whnf)))|(refine And.intro ?_ ?_;rotate_left;(conv=>whnf);rotate_right))
                 all_goals first|rfl|omega|trace_state
               · obtain rfl : k = (elt .chunk now.chunks i).cells.length:=by omega
                 conv=>whnf
                 repeat' (first|exact trivial|((first|((first|refine hT _ _ ?_|refine hE _ _ _ ?_|refine hN _ _ ?_);clear hN hE hT)|((first|refine hX ?_|refine hY ?_);clear hX hY)|refine kL ?_|(refine ⟨fun hb=>?_,fun hb=>?_⟩<;>(try simp only [nrm] at hb)<;>(try (first|(exfalso;omega)|contradiction|exact kB hb)))|refine kW cfg_ok ?_|refine kC ?_|refine bdA ?_|refine bd2 ?_|refine bdR ?_|refine bdL ?_)<;>((repeat (first|(with_reducible refine evCut fun N hN hE hT=>?_)|(with_reducible refine evBlk fun N hN hE hT=>?_)));(try with_reducible refine evCnd fun X Y hX hY=>?_);(conv=>whnf)))|(refine And.intro ?_ ?_;rotate_left;(conv=>whnf);rotate_right))
                 all_goals try (first|omega|(exfalso;omega))
                 refine .to (i + 1) (by omega) (by omega) ?_
                 conv=>whnf
                 repeat' (first|exact trivial|((first|((first|refine hT _ _ ?_|refine hE _ _ _ ?_|refine hN _ _ ?_);clear hN hE hT)|((first|refine hX ?_|refine hY ?_);clear hX hY)|refine kL ?_|(refine ⟨fun hb=>?_,fun hb=>?_⟩<;>(try simp only [nrm] at hb)<;>(try (first|(exfalso;omega)|contradiction|exact kB hb)))|refine kW cfg_ok ?_|refine kC ?_|refine bdA ?_|refine bd2 ?_|refine bdR ?_|refine bdL ?_)<;>((repeat (first|(with_reducible refine evCut fun N hN hE hT=>?_)|(with_reducible refine evBlk fun N hN hE hT=>?_)));(try with_reducible refine evCnd fun X Y hX hY=>?_);(conv=>whnf)))|(refine And.intro ?_ ?_;rotate_left;(conv=>whnf);rotate_right))
                 all_goals first|rfl|omega|trace_state
           · obtain rfl : i = now.chunks.length:=by omega
             conv=>whnf
             repeat' (first|exact trivial|((first|((first|refine hT _ _ ?_|refine hE _ _ _ ?_|refine hN _ _ ?_);clear hN hE hT)|((first|refine hX ?_|refine hY ?_);clear hX hY)|refine kL ?_|(refine ⟨fun hb=>?_,fun hb=>?_⟩<;>(try simp only [nrm] at hb)<;>(try (first|(exfalso;omega)|contradiction|exact kB hb)))|refine kA g3 ?_|refine kD g3 ?_|refine kA hsm ?_|refine kD hsm ?_|refine kW cfg_ok ?_|refine kC ?_|refine bdA ?_|refine bd2 ?_|refine bdR ?_|refine bdL ?_)<;>((repeat (first|(with_reducible refine evCut fun N hN hE hT=>?_)|(with_reducible refine evBlk fun N hN hE hT=>?_)));(try with_reducible refine evCnd fun X Y hX hY=>?_);(conv=>whnf)))|(refine And.intro ?_ ?_;rotate_left;(conv=>whnf);rotate_right))
             all_goals try (first|omega|(exfalso;omega))
             refine .to 2 (by omega) (by omega) ?_
             conv=>whnf
             repeat' (first|exact trivial|((first|((first|refine hT _ _ ?_|refine hE _ _ _ ?_|refine hN _ _ ?_);clear hN hE hT)|((first|refine hX ?_|refine hY ?_);clear hX hY)|refine kL ?_|(refine ⟨fun hb=>?_,fun hb=>?_⟩<;>(try simp only [nrm] at hb)<;>(try (first|(exfalso;omega)|contradiction|exact kB hb)))|refine kW cfg_ok ?_|refine kC ?_|refine bdA ?_|refine bd2 ?_|refine bdR ?_|refine bdL ?_)<;>((repeat (first|(with_reducible refine evCut fun N hN hE hT=>?_)|(with_reducible refine evBlk fun N hN hE hT=>?_)));(try with_reducible refine evCnd fun X Y hX hY=>?_);(conv=>whnf)))|(refine And.intro ?_ ?_;rotate_left;(conv=>whnf);rotate_right))
             all_goals first|rfl|omega|trace_state
     | 2,_ =>
       conv=>whnf
       repeat' (first|exact trivial|((first|((first|refine hT _ _ ?_|refine hE _ _ _ ?_|refine hN _ _ ?_);clear hN hE hT)|((first|refine hX ?_|refine hY ?_);clear hX hY)|refine kL ?_|(refine ⟨fun hb=>?_,fun hb=>?_⟩<;>(try simp only [nrm] at hb)<;>(try (first|(exfalso;omega)|contradiction|exact kB hb)))|refine kA haw ?_|refine kD haw ?_|refine kW cfg_ok ?_|refine kC ?_|refine bdA ?_|refine bd2 ?_|refine bdR ?_|refine bdL ?_)<;>((repeat (first|(with_reducible refine evCut fun N hN hE hT=>?_)|(with_reducible refine evBlk fun N hN hE hT=>?_)));(try with_reducible refine evCnd fun X Y hX hY=>?_);(conv=>whnf)))|(refine And.intro ?_ ?_;rotate_left;(conv=>whnf);rotate_right))
       all_goals first|rfl|omega|(exfalso;omega)|trace_state
 · clear hmw
   refine Api.of_fin cfg_ok Tryz.func8 rfl (nt:=148) rfl rfl ?_
   ((repeat (first|(with_reducible refine evCut fun N hN hE hT=>?_)|(with_reducible refine evBlk fun N hN hE hT=>?_)));(try with_reducible refine evCnd fun X Y hX hY=>?_);(conv=>whnf))
   repeat' (first|exact trivial|((first|((first|refine hT _ _ ?_|refine hE _ _ _ ?_|refine hN _ _ ?_);clear hN hE hT)|((first|refine hX ?_|refine hY ?_);clear hX hY)|refine kL ?_|(refine ⟨fun hb=>?_,fun hb=>?_⟩<;>(try simp only [nrm] at hb)<;>(try (first|(exfalso;omega)|contradiction|exact kB hb)))|refine kA hga ?_|refine kD hga ?_|refine kA hgn ?_|refine kD hgn ?_|refine kA hta ?_|refine kD hta ?_|refine kA heq ?_|refine kD heq ?_|refine kW cfg_ok ?_|refine kC ?_|refine bdA ?_|refine bd2 ?_|refine bdR ?_|refine bdL ?_)<;>((repeat (first|(with_reducible refine evCut fun N hN hE hT=>?_)|(with_reducible refine evBlk fun N hN hE hT=>?_)));(try with_reducible refine evCnd fun X Y hX hY=>?_);(conv=>whnf)))|(refine And.intro ?_ ?_;rotate_left;(conv=>whnf);rotate_right))
   all_goals try (first|omega|(exfalso;omega))
   clear hga hgn hta heq
   refine Runs.loopS cfg_ok (σ:=Nat) [4,62,63] (fun k=>[.ptr 8 0,.agg (viewC bs ++ (zeroL ++ [])),i64 (k : Nat)]) (fun k=>[(8,.box (viewC now))])
     (fun k=>k ≤ 2) (fun k=>2 - k) 0 (by omega) ?_ ?_
   · conv=>whnf
     repeat' (first|exact trivial|((first|((first|refine hT _ _ ?_|refine hE _ _ _ ?_|refine hN _ _ ?_);clear hN hE hT)|((first|refine hX ?_|refine hY ?_);clear hX hY)|refine kL ?_|(refine ⟨fun hb=>?_,fun hb=>?_⟩<;>(try simp only [nrm] at hb)<;>(try (first|(exfalso;omega)|contradiction|exact kB hb)))|refine kW cfg_ok ?_|refine kC ?_|refine bdA ?_|refine bd2 ?_|refine bdR ?_|refine bdL ?_)<;>((repeat (first|(with_reducible refine evCut fun N hN hE hT=>?_)|(with_reducible refine evBlk fun N hN hE hT=>?_)));(try with_reducible refine evCnd fun X Y hX hY=>?_);(conv=>whnf)))|(refine And.intro ?_ ?_;rotate_left;(conv=>whnf);rotate_right))
     all_goals first|rfl|omega|trace_state
   · intro k hk
     match k,hk with
     | 0,_ =>
       rcases h0 with ⟨g1,g2,g3,g4,g5⟩|⟨x,r1,g1,g2,g3⟩
       · cases rn with
         | false =>
           conv=>whnf
           repeat' (first|exact trivial|((first|((first|refine hT _ _ ?_|refine hE _ _ _ ?_|refine hN _ _ ?_);clear hN hE hT)|((first|refine hX ?_|refine hY ?_);clear hX hY)|refine kL ?_|(refine ⟨fun hb=>?_,fun hb=>?_⟩<;>(try simp only [nrm] at hb)<;>(try (first|(exfalso;omega)|contradiction|exact kB hb)))|refine kA g1 ?_|refine kD g1 ?_|refine kA g2 ?_|refine kD g2 ?_|refine kW cfg_ok ?_|refine kC ?_|refine bdA ?_|refine bd2 ?_|refine bdR ?_|refine bdL ?_)<;>((repeat (first|(with_reducible refine evCut fun N hN hE hT=>?_)|(with_reducible refine evBlk fun N hN hE hT=>?_)));(try with_reducible refine evCnd fun X Y hX hY=>?_);(conv=>whnf)))|(refine And.intro ?_ ?_;rotate_left;(conv=>whnf);rotate_right))
           all_goals try (first|omega|(exfalso;omega))
           refine .to 1 (by omega) (by omega) ?_
           conv=>whnf
           repeat' (first|exact trivial|((first|((first|refine hT _ _ ?_|refine hE _ _ _ ?_|refine hN _ _ ?_);clear hN hE hT)|((first|refine hX ?_|refine hY ?_);clear hX hY)|refine kL ?_|(refine ⟨fun hb=>?_,fun hb=>?_⟩<;>(try simp only [nrm] at hb)<;>(try (first|(exfalso;omega)|contradiction|exact kB hb)))|refine kW cfg_ok ?_|refine kC ?_|refine bdA ?_|refine bd2 ?_|refine bdR ?_|refine bdL ?_)<;>((repeat (first|(with_reducible refine evCut fun N hN hE hT=>?_)|(with_reducible refine evBlk fun N hN hE hT=>?_)));(try with_reducible refine evCnd fun X Y hX hY=>?_);(conv=>whnf)))|(refine And.intro ?_ ?_;rotate_left;(conv=>whnf);rotate_right))
           all_goals first|rfl|omega|trace_state
         | true =>
           obtain ⟨e1,e2⟩:=g5 rfl
           subst e1 e2
           conv=>whnf
           repeat' (first|exact trivial|((first|((first|refine hT _ _ ?_|refine hE _ _ _ ?_|refine hN _ _ ?_);clear hN hE hT)|((first|refine hX ?_|refine hY ?_);clear hX hY)|refine kL ?_|(refine ⟨fun hb=>?_,fun hb=>?_⟩<;>(try simp only [nrm] at hb)<;>(try (first|(exfalso;omega)|contradiction|exact kB hb)))|refine kA g1 ?_|refine kD g1 ?_|refine kA g2 ?_|refine kD g2 ?_|refine kA g3 ?_|refine kD g3 ?_|refine kA g4 ?_|refine kD g4 ?_|refine kW cfg_ok ?_|refine kC ?_|refine bdA ?_|refine bd2 ?_|refine bdR ?_|refine bdL ?_)<;>((repeat (first|(with_reducible refine evCut fun N hN hE hT=>?_)|(with_reducible refine evBlk fun N hN hE hT=>?_)));(try with_reducible refine evCnd fun X Y hX hY=>?_);(conv=>whnf)))|(refine And.intro ?_ ?_;rotate_left;(conv=>whnf);rotate_right))
           all_goals try (first|omega|(exfalso;omega))
           all_goals
             refine .to 1 (by omega) (by omega) ?_
             conv=>whnf
             repeat' (first|exact trivial|((first|((first|refine hT _ _ ?_|refine hE _ _ _ ?_|refine hN _ _ ?_);clear hN hE hT)|((first|refine hX ?_|refine hY ?_);clear hX hY)|refine kL ?_|(refine ⟨fun hb=>?_,fun hb=>?_⟩<;>(try simp only [nrm] at hb)<;>(try (first|(exfalso;omega)|contradiction|exact kB hb)))|refine kW cfg_ok ?_|refine kC ?_|refine bdA ?_|refine bd2 ?_|refine bdR ?_|refine bdL ?_)<;>((repeat (first|(with_reducible refine evCut fun N hN hE hT=>?_)|(with_reducible refine evBlk fun N hN hE hT=>?_)));(try with_reducible refine evCnd fun X Y hX hY=>?_);(conv=>whnf)))|(refine And.intro ?_ ?_;rotate_left;(conv=>whnf);rotate_right))
             all_goals first|rfl|omega|trace_state
       · conv=>whnf
         repeat' (first|exact trivial|((first|((first|refine hT _ _ ?_|refine hE _ _ _ ?_|refine hN _ _ ?_);clear hN hE hT)|((first|refine hX ?_|refine hY ?_);clear hX hY)|refine kL ?_|(refine ⟨fun hb=>?_,fun hb=>?_⟩<;>(try simp only [nrm] at hb)<;>(try (first|(exfalso;omega)|contradiction|exact kB hb)))|refine kA g1 ?_|refine kD g1 ?_|refine kW cfg_ok ?_|refine kC ?_|refine bdA ?_|refine bd2 ?_|refine bdR ?_|refine bdL ?_)<;>((repeat (first|(with_reducible refine evCut fun N hN hE hT=>?_)|(with_reducible refine evBlk fun N hN hE hT=>?_)));(try with_reducible refine evCnd fun X Y hX hY=>?_);(conv=>whnf)))|(refine And.intro ?_ ?_;rotate_left;(conv=>whnf);rotate_right))
         all_goals try (first|omega|(exfalso;omega))
         refine kA g2 ?_
         conv=>whnf
         repeat' (first|exact trivial|((first|((first|refine hT _ _ ?_|refine hE _ _ _ ?_|refine hN _ _ ?_);clear hN hE hT)|((first|refine hX ?_|refine hY ?_);clear hX hY)|refine kL ?_|(refine ⟨fun hb=>?_,fun hb=>?_⟩<;>(try simp only [nrm] at hb)<;>(try (first|(exfalso;omega)|contradiction|exact kB hb)))|(refine kU hsm ?_ rfl rfl rfl)|(refine kUD hsm ?_ rfl rfl rfl)|refine kW cfg_ok ?_|refine kC ?_|refine bdA ?_|refine bd2 ?_|refine bdR ?_|refine bdL ?_)<;>((repeat (first|(with_reducible refine evCut fun N hN hE hT=>?_)|(with_reducible refine evBlk fun N hN hE hT=>?_)));(try with_reducible refine evCnd fun X Y hX hY=>?_);(conv=>whnf)))|(refine And.intro ?_ ?_;rotate_left;(conv=>whnf);rotate_right))
         all_goals try (first|omega|(exfalso;omega))
         refine Runs.burn ?_
         refine Runs.loopS cfg_ok (σ:=Nat) [4,12,13,15,62,63,111,112] (fun i=>[.ptr 8 0,.ptr 24 0,.vec .u8 x,.ptr 30 0,.agg (viewC bs ++ (zeroL ++ [])),i64 0,i64 now.chunks.length,i64 i])
           (fun i=>[(8,.box (viewC now)),(24,.box (viewC bs)),(30,.box (viewKC now))])
           (fun i=>i ≤ now.chunks.length) (fun i=>now.chunks.length - i) 0 (by omega) ?_ ?_
         · conv=>whnf
           repeat' (first|exact trivial|((first|((first|refine hT _ _ ?_|refine hE _ _ _ ?_|refine hN _ _ ?_);clear hN hE hT)|((first|refine hX ?_|refine hY ?_);clear hX hY)|refine kL ?_|(refine ⟨fun hb=>?_,fun hb=>?_⟩<;>(try simp only [nrm] at hb)<;>(try (first|(exfalso;omega)|contradiction|exact kB hb)))|refine kW cfg_ok ?_|refine kC ?_|refine bdA ?_|refine bd2 ?_|refine bdR ?_|refine bdL ?_)<;>((repeat (first|(with_reducible refine evCut fun N hN hE hT=>?_)|(with_reducible refine evBlk fun N hN hE hT=>?_)));(try with_reducible refine evCnd fun X Y hX hY=>?_);(conv=>whnf)))|(refine And.intro ?_ ?_;rotate_left;(conv=>whnf);rotate_right))
           all_goals first|rfl|omega|trace_state
         · intro i hi
           by_cases hli : i < now.chunks.length
           · have hc1:=hcl r1 i hli
             have hd1 : (elt .chunkK now.chunks ((i : Nat) : Int).toNat).cells.length = 64:=hc1
             conv=>whnf
             repeat' (first|exact trivial|((first|((first|refine hT _ _ ?_|refine hE _ _ _ ?_|refine hN _ _ ?_);clear hN hE hT)|((first|refine hX ?_|refine hY ?_);clear hX hY)|refine kL ?_|(refine ⟨fun hb=>?_,fun hb=>?_⟩<;>(try simp only [nrm] at hb)<;>(try (first|(exfalso;omega)|contradiction|exact kB hb)))|refine kW cfg_ok ?_|refine kC ?_|refine bdA ?_|refine bd2 ?_|refine bdR ?_|refine bdL ?_)<;>((repeat (first|(with_reducible refine evCut fun N hN hE hT=>?_)|(with_reducible refine evBlk fun N hN hE hT=>?_)));(try with_reducible refine evCnd fun X Y hX hY=>?_);(conv=>whnf)))|(refine And.intro ?_ ?_;rotate_left;(conv=>whnf);rotate_right))
             all_goals try (first|omega|(exfalso;omega))
             refine Runs.loopS cfg_ok (σ:=Nat) [4,12,13,15,17,62,63,111,112,121,122] (fun k=>[.ptr 8 0,.ptr 24 0,.vec .u8 x,.ptr 30 0,i64 i,.agg (viewC bs ++ (zeroL ++ [])),i64 0,i64 now.chunks.length,i64 i,i64 (elt .chunk now.chunks i).cells.length,i64 k])
               (fun k=>[(8,.box (viewC now)),(24,.box (viewC bs)),(30,.box (viewKC now))])
               (fun k=>k ≤ (elt .chunk now.chunks i).cells.length) (fun k=>(elt .chunk now.chunks i).cells.length - k) 0 (by omega) ?_ ?_
             · conv=>whnf
               repeat' (first|exact trivial|((first|((first|refine hT _ _ ?_|refine hE _ _ _ ?_|refine hN _ _ ?_);clear hN hE hT)|((first|refine hX ?_|refine hY ?_);clear hX hY)|refine kL ?_|(refine ⟨fun hb=>?_,fun hb=>?_⟩<;>(try simp only [nrm] at hb)<;>(try (first|(exfalso;omega)|contradiction|exact kB hb)))|refine kW cfg_ok ?_|refine kC ?_|refine bdA ?_|refine bd2 ?_|refine bdR ?_|refine bdL ?_)<;>((repeat (first|(with_reducible refine evCut fun N hN hE hT=>?_)|(with_reducible refine evBlk fun N hN hE hT=>?_)));(try with_reducible refine evCnd fun X Y hX hY=>?_);(conv=>whnf)))|(refine And.intro ?_ ?_;rotate_left;(conv=>whnf);rotate_right))
               all_goals first|rfl|omega|trace_state
             · intro k hk
               by_cases hlk : k < (elt .chunk now.chunks i).cells.length
               · conv=>whnf
                 repeat' (first|exact trivial|((first|((first|refine hT _ _ ?_|refine hE _ _ _ ?_|refine hN _ _ ?_);clear hN hE hT)|((first|refine hX ?_|refine hY ?_);clear hX hY)|refine kL ?_|(refine ⟨fun hb=>?_,fun hb=>?_⟩<;>(try simp only [nrm] at hb)<;>(try (first|(exfalso;omega)|contradiction|exact kB hb)))|refine kW cfg_ok ?_|refine kC ?_|refine bdA ?_|refine bd2 ?_|refine bdR ?_|refine bdL ?_)<;>((repeat (first|(with_reducible refine evCut fun N hN hE hT=>?_)|(with_reducible refine evBlk fun N hN hE hT=>?_)));(try with_reducible refine evCnd fun X Y hX hY=>?_);(conv=>whnf)))|(refine And.intro ?_ ?_;rotate_left;(conv=>whnf);rotate_right))
                 all_goals try (first|omega|(exfalso;omega))
                 refine .to (k + 1) (by omega) (by omega) ?_
                 conv=>whnf
                 repeat' (first|exact trivial|((first|((first|refine hT _ _ ?_|refine hE _ _ _ ?_|refine hN _ _ ?_);clear hN hE hT)|((first|refine hX ?_|refine hY ?_);clear hX hY)|refine kL ?_|(refine ⟨fun hb=>?_,fun hb=>?_⟩<;>(try simp only [nrm] at hb)<;>(try (first|(exfalso;omega)|contradiction|exact kB hb)))|refine kW cfg_ok ?_|refine kC ?_|refine bdA ?_|refine bd2 ?_|refine bdR ?_|refine bdL ?_)<;>((repeat (first|(with_reducible refine evCut fun N hN hE hT=>?_)|(with_reducible refine evBlk fun N hN hE hT=>?_)));(try with_reducible refine evCnd fun X Y hX hY=>?_);(conv=>whnf)))|(refine And.intro ?_ ?_;rotate_left;(conv=>whnf);rotate_right))
                 all_goals first|rfl|omega|trace_state
               · obtain rfl : k = (elt .chunk now.chunks i).cells.length:=by omega
                 conv=>whnf
                 repeat' (first|exact trivial|((first|((first|refine hT _ _ ?_|refine hE _ _ _ ?_|refine hN _ _ ?_);clear hN hE hT)|((first|refine hX ?_|refine hY ?_);clear hX hY)|refine kL ?_|(refine ⟨fun hb=>?_,fun hb=>?_⟩<;>(try simp only [nrm] at hb)<;>(try (first|(exfalso;omega)|contradiction|exact kB hb)))|refine kW cfg_ok ?_|refine kC ?_|refine bdA ?_|refine bd2 ?_|refine bdR ?_|refine bdL ?_)<;>((repeat (first|(with_reducible refine evCut fun N hN hE hT=>?_)|(with_reducible refine evBlk fun N hN hE hT=>?_)));(try with_reducible refine evCnd fun X Y hX hY=>?_);(conv=>whnf)))|(refine And.intro ?_ ?_;rotate_left;(conv=>whnf);rotate_right))
                 all_goals try (first|omega|(exfalso;omega))
                 refine .to (i + 1) (by omega) (by omega) ?_
                 conv=>whnf
                 repeat' (first|exact trivial|((first|((first|refine hT _ _ ?_|refine hE _ _ _ ?_|refine hN _ _ ?_);clear hN hE hT)|((first|refine hX ?_|refine hY ?_);clear hX hY)|refine kL ?_|(refine ⟨fun hb=>?_,fun hb=>?_⟩<;>(try simp only [nrm] at hb)<;>(try (first|(exfalso;omega)|contradiction|exact kB hb)))|refine kW cfg_ok ?_|refine kC ?_|refine bdA ?_|refine bd2 ?_|refine bdR ?_|refine bdL ?_)<;>((repeat (first|(with_reducible refine evCut fun N hN hE hT=>?_)|(with_reducible refine evBlk fun N hN hE hT=>?_)));(try with_reducible refine evCnd fun X Y hX hY=>?_);(conv=>whnf)))|(refine And.intro ?_ ?_;rotate_left;(conv=>whnf);rotate_right))
                 all_goals first|rfl|omega|trace_state
           · obtain rfl : i = now.chunks.length:=by omega
             conv=>whnf
             repeat' (first|exact trivial|((first|((first|refine hT _ _ ?_|refine hE _ _ _ ?_|refine hN _ _ ?_);clear hN hE hT)|((first|refine hX ?_|refine hY ?_);clear hX hY)|refine kL ?_|(refine ⟨fun hb=>?_,fun hb=>?_⟩<;>(try simp only [nrm] at hb)<;>(try (first|(exfalso;omega)|contradiction|exact kB hb)))|refine kA g3 ?_|refine kD g3 ?_|refine kA hsm ?_|refine kD hsm ?_|refine kW cfg_ok ?_|refine kC ?_|refine bdA ?_|refine bd2 ?_|refine bdR ?_|refine bdL ?_)<;>((repeat (first|(with_reducible refine evCut fun N hN hE hT=>?_)|(with_reducible refine evBlk fun N hN hE hT=>?_)));(try with_reducible refine evCnd fun X Y hX hY=>?_);(conv=>whnf)))|(refine And.intro ?_ ?_;rotate_left;(conv=>whnf);rotate_right))
             all_goals try (first|omega|(exfalso;omega))
             refine .to 1 (by omega) (by omega) ?_
             conv=>whnf
             repeat' (first|exact trivial|((first|((first|refine hT _ _ ?_|refine hE _ _ _ ?_|refine hN _ _ ?_);clear hN hE hT)|((first|refine hX ?_|refine hY ?_);clear hX hY)|refine kL ?_|(refine ⟨fun hb=>?_,fun hb=>?_⟩<;>(try simp only [nrm] at hb)<;>(try (first|(exfalso;omega)|contradiction|exact kB hb)))|refine kW cfg_ok ?_|refine kC ?_|refine bdA ?_|refine bd2 ?_|refine bdR ?_|refine bdL ?_)<;>((repeat (first|(with_reducible refine evCut fun N hN hE hT=>?_)|(with_reducible refine evBlk fun N hN hE hT=>?_)));(try with_reducible refine evCnd fun X Y hX hY=>?_);(conv=>whnf)))|(refine And.intro ?_ ?_;rotate_left;(conv=>whnf);rotate_right))
             all_goals first|rfl|omega|trace_state
     | 1,_ =>
       rcases h1 with ⟨g1,g2,g3,g4,g5⟩|⟨x,r1,g1,g2,g3⟩
       · cases rn with
         | false =>
           conv=>whnf
           repeat' (first|exact trivial|((first|((first|refine hT _ _ ?_|refine hE _ _ _ ?_|refine hN _ _ ?_);clear hN hE hT)|((first|refine hX ?_|refine hY ?_);clear hX hY)|refine kL ?_|(refine ⟨fun hb=>?_,fun hb=>?_⟩<;>(try simp only [nrm] at hb)<;>(try (first|(exfalso;omega)|contradiction|exact kB hb)))|refine kA g1 ?_|refine kD g1 ?_|refine kA g2 ?_|refine kD g2 ?_|refine kW cfg_ok ?_|refine kC ?_|refine bdA ?_|refine bd2 ?_|refine bdR ?_|refine bdL ?_)<;>((repeat (first|(with_reducible refine evCut fun N hN hE hT=>?_)|(with_reducible refine evBlk fun N hN hE hT=>?_)));(try with_reducible refine evCnd fun X Y hX hY=>?_);(conv=>whnf)))|(refine And.intro ?_ ?_;rotate_left;(conv=>whnf);rotate_right))
           all_goals try (first|omega|(exfalso;omega))
           refine .to 2 (by omega) (by omega) ?_
           conv=>whnf
           repeat' (first|exact trivial|((first|((first|refine hT _ _ ?_|refine hE _ _ _ ?_|refine hN _ _ ?_);clear hN hE hT)|((first|refine hX ?_|refine hY ?_);clear hX hY)|refine kL ?_|(refine ⟨fun hb=>?_,fun hb=>?_⟩<;>(try simp only [nrm] at hb)<;>(try (first|(exfalso;omega)|contradiction|exact kB hb)))|refine kW cfg_ok ?_|refine kC ?_|refine bdA ?_|refine bd2 ?_|refine bdR ?_|refine bdL ?_)<;>((repeat (first|(with_reducible refine evCut fun N hN hE hT=>?_)|(with_reducible refine evBlk fun N hN hE hT=>?_)));(try with_reducible refine evCnd fun X Y hX hY=>?_);(conv=>whnf)))|(refine And.intro ?_ ?_;rotate_left;(conv=>whnf);rotate_right))
           all_goals first|rfl|omega|trace_state
         | true =>
           obtain ⟨e1,e2⟩:=g5 rfl
           subst e1 e2
           conv=>whnf
           repeat' (first|exact trivial|((first|((first|refine hT _ _ ?_|refine hE _ _ _ ?_|refine hN _ _ ?_);clear hN hE hT)|((first|refine hX ?_|refine hY ?_);clear hX hY)|refine kL ?_|(refine ⟨fun hb=>?_,fun hb=>?_⟩<;>(try simp only [nrm] at hb)<;>(try (first|(exfalso;omega)|contradiction|exact kB hb)))|refine kA g1 ?_|refine kD g1 ?_|refine kA g2 ?_|refine kD g2 ?_|refine kA g3 ?_|refine kD g3 ?_|refine kA g4 ?_|refine kD g4 ?_|refine kW cfg_ok ?_|refine kC ?_|refine bdA ?_|refine bd2 ?_|refine bdR ?_|refine bdL ?_)<;>((repeat (first|(with_reducible refine evCut fun N hN hE hT=>?_)|(with_reducible refine evBlk fun N hN hE hT=>?_)));(try with_reducible refine evCnd fun X Y hX hY=>?_);(conv=>whnf)))|(refine And.intro ?_ ?_;rotate_left;(conv=>whnf);rotate_right))
           all_goals try (first|omega|(exfalso;omega))
           all_goals
             refine .to 2 (by omega) (by omega) ?_
             conv=>whnf
             repeat' (first|exact trivial|((first|((first|refine hT _ _ ?_|refine hE _ _ _ ?_|refine hN _ _ ?_);clear hN hE hT)|((first|refine hX ?_|refine hY ?_);clear hX hY)|refine kL ?_|(refine ⟨fun hb=>?_,fun hb=>?_⟩<;>(try simp only [nrm] at hb)<;>(try (first|(exfalso;omega)|contradiction|exact kB hb)))|refine kW cfg_ok ?_|refine kC ?_|refine bdA ?_|refine bd2 ?_|refine bdR ?_|refine bdL ?_)<;>((repeat (first|(with_reducible refine evCut fun N hN hE hT=>?_)|(with_reducible refine evBlk fun N hN hE hT=>?_)));(try with_reducible refine evCnd fun X Y hX hY=>?_);(conv=>whnf)))|(refine And.intro ?_ ?_;rotate_left;(conv=>whnf);rotate_right))
             all_goals first|rfl|omega|trace_state
       · conv=>whnf
         repeat' (first|exact trivial|((first|((first|refine hT _ _ ?_|refine hE _ _ _ ?_|refine hN _ _ ?_);clear hN hE hT)|((first|refine hX ?_|refine hY ?_);clear hX hY)|refine kL ?_|(refine ⟨fun hb=>?_,fun hb=>?_⟩<;>(try simp only [nrm] at hb)<;>(try (first|(exfalso;omega)|contradiction|exact kB hb)))|refine kA g1 ?_|refine kD g1 ?_|refine kW cfg_ok ?_|refine kC ?_|refine bdA ?_|refine bd2 ?_|refine bdR ?_|refine bdL ?_)<;>((repeat (first|(with_reducible refine evCut fun N hN hE hT=>?_)|(with_reducible refine evBlk fun N hN hE hT=>?_)));(try with_reducible refine evCnd fun X Y hX hY=>?_);(conv=>whnf)))|(refine And.intro ?_ ?_;rotate_left;(conv=>whnf);rotate_right))
         all_goals try (first|omega|(exfalso;omega))
         refine kA g2 ?_
         conv=>whnf
         repeat' (first|exact trivial|((first|((first|refine hT _ _ ?_|refine hE _ _ _ ?_|refine hN _ _ ?_);clear hN hE hT)|((first|refine hX ?_|refine hY ?_);clear hX hY)|refine kL ?_|(refine ⟨fun hb=>?_,fun hb=>?_⟩<;>(try simp only [nrm] at hb)<;>(try (first|(exfalso;omega)|contradiction|exact kB hb)))|(refine kU hsm ?_ rfl rfl rfl)|(refine kUD hsm ?_ rfl rfl rfl)|refine kW cfg_ok ?_|refine kC ?_|refine bdA ?_|refine bd2 ?_|refine bdR ?_|refine bdL ?_)<;>((repeat (first|(with_reducible refine evCut fun N hN hE hT=>?_)|(with_reducible refine evBlk fun N hN hE hT=>?_)));(try with_reducible refine evCnd fun X Y hX hY=>?_);(conv=>whnf)))|(refine And.intro ?_ ?_;rotate_left;(conv=>whnf);rotate_right))
         all_goals try (first|omega|(exfalso;omega))
         refine Runs.burn ?_
         refine Runs.loopS cfg_ok (σ:=Nat) [4,12,13,15,62,63,111,112] (fun i=>[.ptr 8 0,.ptr 24 0,.vec .u8 x,.ptr 30 0,.agg (viewC bs ++ (zeroL ++ [])),i64 1,i64 now.chunks.length,i64 i])
           (fun i=>[(8,.box (viewC now)),(24,.box zeroL),(30,.box (viewKC now))])
           (fun i=>i ≤ now.chunks.length) (fun i=>now.chunks.length - i) 0 (by omega) ?_ ?_
         · conv=>whnf
           repeat' (first|exact trivial|((first|((first|refine hT _ _ ?_|refine hE _ _ _ ?_|refine hN _ _ ?_);clear hN hE hT)|((first|refine hX ?_|refine hY ?_);clear hX hY)|refine kL ?_|(refine ⟨fun hb=>?_,fun hb=>?_⟩<;>(try simp only [nrm] at hb)<;>(try (first|(exfalso;omega)|contradiction|exact kB hb)))|refine kW cfg_ok ?_|refine kC ?_|refine bdA ?_|refine bd2 ?_|refine bdR ?_|refine bdL ?_)<;>((repeat (first|(with_reducible refine evCut fun N hN hE hT=>?_)|(with_reducible refine evBlk fun N hN hE hT=>?_)));(try with_reducible refine evCnd fun X Y hX hY=>?_);(conv=>whnf)))|(refine And.intro ?_ ?_;rotate_left;(conv=>whnf);rotate_right))
           all_goals first|rfl|omega|trace_state
         · intro i hi
           by_cases hli : i < now.chunks.length
           · have hc1:=hcl r1 i hli
             have hd1 : (elt .chunkK now.chunks ((i : Nat) : Int).toNat).cells.length = 64:=hc1
             conv=>whnf
             repeat' (first|exact trivial|((first|((first|refine hT _ _ ?_|refine hE _ _ _ ?_|refine hN _ _ ?_);clear hN hE hT)|((first|refine hX ?_|refine hY ?_);clear hX hY)|refine kL ?_|(refine ⟨fun hb=>?_,fun hb=>?_⟩<;>(try simp only [nrm] at hb)<;>(try (first|(exfalso;omega)|contradiction|exact kB hb)))|refine kW cfg_ok ?_|refine kC ?_|refine bdA ?_|refine bd2 ?_|refine bdR ?_|refine bdL ?_)<;>((repeat (first|(with_reducible refine evCut fun N hN hE hT=>?_)|(with_reducible refine evBlk fun N hN hE hT=>?_)));(try with_reducible refine evCnd fun X Y hX hY=>?_);(conv=>whnf)))|(refine And.intro ?_ ?_;rotate_left;(conv=>whnf);rotate_right))
             all_goals try (first|omega|(exfalso;omega))
             refine Runs.loopS cfg_ok (σ:=Nat) [4,12,13,15,17,62,63,111,112,121,122] (fun k=>[.ptr 8 0,.ptr 24 0,.vec .u8 x,.ptr 30 0,i64 i,.agg (viewC bs ++ (zeroL ++ [])),i64 1,i64 now.chunks.length,i64 i,i64 (elt .chunk now.chunks i).cells.length,i64 k])
               (fun k=>[(8,.box (viewC now)),(24,.box zeroL),(30,.box (viewKC now))])
               (fun k=>k ≤ (elt .chunk now.chunks i).cells.length) (fun k=>(elt .chunk now.chunks i).cells.length - k) 0 (by omega) ?_ ?_
             · conv=>whnf
               repeat' (first|exact trivial|((first|((first|refine hT _ _ ?_|refine hE _ _ _ ?_|refine hN _ _ ?_);clear hN hE hT)|((first|refine hX ?_|refine hY ?_);clear hX hY)|refine kL ?_|(refine ⟨fun hb=>?_,fun hb=>?_⟩<;>(try simp only [nrm] at hb)<;>(try (first|(exfalso;omega)|contradiction|exact kB hb)))|refine kW cfg_ok ?_|refine kC ?_|refine bdA ?_|refine bd2 ?_|refine bdR ?_|refine bdL ?_)<;>((repeat (first|(with_reducible refine evCut fun N hN hE hT=>?_)|(with_reducible refine evBlk fun N hN hE hT=>?_)));(try with_reducible refine evCnd fun X Y hX hY=>?_);(conv=>whnf)))|(refine And.intro ?_ ?_;rotate_left;(conv=>whnf);rotate_right))
               all_goals first|rfl|omega|trace_state
             · intro k hk
               by_cases hlk : k < (elt .chunk now.chunks i).cells.length
               · conv=>whnf
                 repeat' (first|exact trivial|((first|((first|refine hT _ _ ?_|refine hE _ _ _ ?_|refine hN _ _ ?_);clear hN hE hT)|((first|refine hX ?_|refine hY ?_);clear hX hY)|refine kL ?_|(refine ⟨fun hb=>?_,fun hb=>?_⟩<;>(try simp only [nrm] at hb)<;>(try (first|(exfalso;omega)|contradiction|exact kB hb)))|refine kW cfg_ok ?_|refine kC ?_|refine bdA ?_|refine bd2 ?_|refine bdR ?_|refine bdL ?_)<;>((repeat (first|(with_reducible refine evCut fun N hN hE hT=>?_)|(with_reducible refine evBlk fun N hN hE hT=>?_)));(try with_reducible refine evCnd fun X Y hX hY=>?_);(conv=>whnf)))|(refine And.intro ?_ ?_;rotate_left;(conv=>whnf);rotate_right))
                 all_goals try (first|omega|(exfalso;omega))
                 refine .to (k + 1) (by omega) (by omega) ?_
                 conv=>whnf
                 repeat' (first|exact trivial|((first|((first|refine hT _ _ ?_|refine hE _ _ _ ?_|refine hN _ _ ?_);clear hN hE hT)|((first|refine hX ?_|refine hY ?_);clear hX hY)|refine kL ?_|(refine ⟨fun hb=>?_,fun hb=>?_⟩<;>(try simp only [nrm] at hb)<;>(try (first|(exfalso;omega)|contradiction|exact kB hb)))|refine kW cfg_ok ?_|refine kC ?_|refine bdA ?_|refine bd2 ?_|refine bdR ?_|refine bdL ?_)<;>((repeat (first|(with_reducible refine evCut fun N hN hE hT=>?_)|(with_reducible refine evBlk fun N hN hE hT=>?_)));(try with_reducible refine evCnd fun X Y hX hY=>?_);(conv=>whnf)))|(refine And.intro ?_ ?_;rotate_left;(conv=>whnf);rotate_right))
                 all_goals first|rfl|omega|trace_state
               · obtain rfl : k = (elt .chunk now.chunks i).cells.length:=by omega
                 conv=>whnf
                 repeat' (first|exact trivial|((first|((first|refine hT _ _ ?_|refine hE _ _ _ ?_|refine hN _ _ ?_);clear hN hE hT)|((first|refine hX ?_|refine hY ?_);clear hX hY)|refine kL ?_|(refine ⟨fun hb=>?_,fun hb=>?_⟩<;>(try simp only [nrm] at hb)<;>(try (first|(exfalso;omega)|contradiction|exact kB hb)))|refine kW cfg_ok ?_|refine kC ?_|refine bdA ?_|refine bd2 ?_|refine bdR ?_|refine bdL ?_)<;>((repeat (first|(with_reducible refine evCut fun N hN hE hT=>?_)|(with_reducible refine evBlk fun N hN hE hT=>?_)));(try with_reducible refine evCnd fun X Y hX hY=>?_);(conv=>whnf)))|(refine And.intro ?_ ?_;rotate_left;(conv=>whnf);rotate_right))
                 all_goals try (first|omega|(exfalso;omega))
                 refine .to (i + 1) (by omega) (by omega) ?_
                 conv=>whnf
                 repeat' (first|exact trivial|((first|((first|refine hT _ _ ?_|refine hE _ _ _ ?_|refine hN _ _ ?_);clear hN hE hT)|((first|refine hX ?_|refine hY ?_);clear hX hY)|refine kL ?_|(refine ⟨fun hb=>?_,fun hb=>?_⟩<;>(try simp only [nrm] at hb)<;>(try (first|(exfalso;omega)|contradiction|exact kB hb)))|refine kW cfg_ok ?_|refine kC ?_|refine bdA ?_|refine bd2 ?_|refine bdR ?_|refine bdL ?_)<;>((repeat (first|(with_reducible refine evCut fun N hN hE hT=>?_)|(with_reducible refine evBlk fun N hN hE hT=>?_)));(try with_reducible refine evCnd fun X Y hX hY=>?_);(conv=>whnf)))|(refine And.intro ?_ ?_;rotate_left;(conv=>whnf);rotate_right))
                 all_goals first|rfl|omega|trace_state
           · obtain rfl : i = now.chunks.length:=by omega
             conv=>whnf
             repeat' (first|exact trivial|((first|((first|refine hT _ _ ?_|refine hE _ _ _ ?_|refine hN _ _ ?_);clear hN hE hT)|((first|refine hX ?_|refine hY ?_);clear hX hY)|refine kL ?_|(refine ⟨fun hb=>?_,fun hb=>?_⟩<;>(try simp only [nrm] at hb)<;>(try (first|(exfalso;omega)|contradiction|exact kB hb)))|refine kA g3 ?_|refine kD g3 ?_|refine kA hsm ?_|refine kD hsm ?_|refine kW cfg_ok ?_|refine kC ?_|refine bdA ?_|refine bd2 ?_|refine bdR ?_|refine bdL ?_)<;>((repeat (first|(with_reducible refine evCut fun N hN hE hT=>?_)|(with_reducible refine evBlk fun N hN hE hT=>?_)));(try with_reducible refine evCnd fun X Y hX hY=>?_);(conv=>whnf)))|(refine And.intro ?_ ?_;rotate_left;(conv=>whnf);rotate_right))
             all_goals try (first|omega|(exfalso;omega))
             refine .to 2 (by omega) (by omega) ?_
             conv=>whnf
             repeat' (first|exact trivial|((first|((first|refine hT _ _ ?_|refine hE _ _ _ ?_|refine hN _ _ ?_);clear hN hE hT)|((first|refine hX ?_|refine hY ?_);clear hX hY)|refine kL ?_|(refine ⟨fun hb=>?_,fun hb=>?_⟩<;>(try simp only [nrm] at hb)<;>(try (first|(exfalso;omega)|contradiction|exact kB hb)))|refine kW cfg_ok ?_|refine kC ?_|refine bdA ?_|refine bd2 ?_|refine bdR ?_|refine bdL ?_)<;>((repeat (first|(with_reducible refine evCut fun N hN hE hT=>?_)|(with_reducible refine evBlk fun N hN hE hT=>?_)));(try with_reducible refine evCnd fun X Y hX hY=>?_);(conv=>whnf)))|(refine And.intro ?_ ?_;rotate_left;(conv=>whnf);rotate_right))
             all_goals first|rfl|omega|trace_state
     | 2,_ =>
       conv=>whnf
       repeat' (first|exact trivial|((first|((first|refine hT _ _ ?_|refine hE _ _ _ ?_|refine hN _ _ ?_);clear hN hE hT)|((first|refine hX ?_|refine hY ?_);clear hX hY)|refine kL ?_|(refine ⟨fun hb=>?_,fun hb=>?_⟩<;>(try simp only [nrm] at hb)<;>(try (first|(exfalso;omega)|contradiction|exact kB hb)))|refine kA haw ?_|refine kD haw ?_|refine kW cfg_ok ?_|refine kC ?_|refine bdA ?_|refine bd2 ?_|refine bdR ?_|refine bdL ?_)<;>((repeat (first|(with_reducible refine evCut fun N hN hE hT=>?_)|(with_reducible refine evBlk fun N hN hE hT=>?_)));(try with_reducible refine evCnd fun X Y hX hY=>?_);(conv=>whnf)))|(refine And.intro ?_ ?_;rotate_left;(conv=>whnf);rotate_right))
       all_goals first|rfl|omega|(exfalso;omega)|trace_state
open Go Go.RowKit Eng
theorem le_zero : Le (.agg zeroL) (viewV emptyV):=Le.agg (.cons (Le.refl _) (.cons (Le.refl _) (.cons (Le.refl _) (.cons (Le.refl _) (.cons (Le.nil _) (.cons (Le.refl _) (.cons (Le.nil _) (.cons (Le.ff rfl) (.cons (Le.nil _) (.cons (Le.nil _) .nil))))))))))
theorem back_no {v n : Viw} (hm : makeB v n = false) : rightV n = true → rightV v = false ∧ nothingB v = false:=fun h=>by
 unfold makeB at hm
 rw [h,Bool.true_and] at hm
 unfold baseB at hm
 rw [Bool.or_eq_false_iff] at hm
 exact ⟨hm.2,hm.1⟩
theorem sback_api (a n : Viw) (b : List (El .u8)) (ha : OkV a) (hn : OkV n) (h8 : okU8 b) : Api Tryz.prog 8 [viewV a,viewV n,.vec .u8 b] (bol true):=by
 by_cases hg : greatV a = true ∨ greatV n = true ∨ 20000 < b.length
 · exact sbackNo_api a n b ha hn hg
 have hl : b.length ≤ 20000:=Nat.le_of_not_lt fun h=>hg (.inr (.inr h))
 have hga:=greatV_api a ha
 rw [show greatV a = false by
   cases h : greatV a with
   | false=>rfl
   | true=>exact absurd (.inl h) hg] at hga
 have hgn:=greatV_api n hn
 rw [show greatV n = false by
   cases h : greatV n with
   | false=>rfl
   | true=>exact absurd (.inr (.inl h)) hg] at hgn
 have hta:=take_api (v:=a) (b:=b) ha h8 (by omega)
 have hmw : (takeY a b).2 = 0 → Api Tryz.prog 37 [viewV a,viewV (takeY a b).1] (.tup [.vec .u8 b,i64 0]) ∧ Api Tryz.prog 43 [viewV (takeY a b).1] (bol true):=fun he=>by
   obtain ⟨m1,m2⟩:=back_take he
   have m3:=m1
   unfold makeB at m3
   rw [Bool.and_eq_true] at m3
   have hw:=okV_right3 m3.1
   have g1:=make_api a (takeY a b).1 ha hw
   unfold makeE at g1
   rw [m1,if_pos rfl,if_pos rfl,m2] at g1
   have g2:=vright_api (takeY a b).1 hw
   rw [m3.1] at g2
   exact ⟨g1,g2⟩
 have heq:=equal_api b b h8 h8
 rw [show eqL b b = true from decide_eq_true rfl] at heq
 have hsm:=same19_api n n hn
 rw [eqv_self] at hsm
 have lE:=le_zero
 have hz : baseB emptyV = true:=empty_base
 refine sbackIn_api a n b (rightV n) (rightV a) (nothingB a) (rightV emptyV) (nothingB emptyV) hn.nc hl hga hgn _ _ hta hmw heq hsm (fun h=>back_cells h) ?_ ?_
 · cases hm : makeB a n with
   | false =>
     have g1:=make_api a n ha hn
     unfold makeE at g1
     rw [hm,if_neg (by simp),if_neg (by simp)] at g1
     exact .inl ⟨g1,vright_api n hn,vright_api a ha,api_weak (vsame_api a emptyV ha) (.cons (Le.refl _) (.cons lE .nil)),back_no hm⟩
   | true =>
     have g1:=make_api a n ha hn
     unfold makeE at g1
     rw [hm,if_pos rfl,if_pos rfl] at g1
     have m3:=hm
     unfold makeB at m3
     rw [Bool.and_eq_true] at m3
     have hu:=u8_makeY m3.2 m3.1
     have hle:=makeY_le (v:=a) m3.1
     have ht:=take_make m3.1 m3.2
     have g2:=takeF_api a (makeY a n) ha hu (by omega) m3.2 _ ht
     have g3:=take_api (v:=a) (b:=makeY a n) ha hu (by omega)
     rw [ht] at g3
     exact .inr ⟨makeY a n,m3.1,g1,g2,g3⟩
 · cases hr : rightV n with
   | false =>
     have hm : makeB emptyV n = false:=by unfold makeB;rw [hr,Bool.false_and]
     have g1:=make_api emptyV n okV_empty hn
     unfold makeE at g1
     rw [hm,if_neg (by simp),if_neg (by simp)] at g1
     have hvn:=vright_api n hn
     rw [hr] at hvn
     exact .inl ⟨api_weak g1 (.cons lE (.cons (Le.refl _) .nil)),hvn,api_weak (vright_api emptyV okV_empty) (.cons lE .nil),api_weak (vsame_api emptyV emptyV okV_empty) (.cons lE (.cons lE .nil)),fun h=>by cases h⟩
   | true =>
     have hm : makeB emptyV n = true:=by unfold makeB;rw [hr,hz];rfl
     have g1:=make_api emptyV n okV_empty hn
     unfold makeE at g1
     rw [hm,if_pos rfl,if_pos rfl] at g1
     have hu:=u8_makeY hz hr
     have hle:=makeY_le (v:=emptyV) hr
     have ht:=take_make hr hz
     have g2:=takeF_api emptyV (makeY emptyV n) okV_empty hu (by omega) hz _ ht
     have g3:=take_api (v:=emptyV) (b:=makeY emptyV n) okV_empty hu (by omega)
     rw [ht] at g3
     exact .inr ⟨makeY emptyV n,rfl,api_weak g1 (.cons lE (.cons (Le.refl _) .nil)),api_weak g2 (.cons lE (.cons (Le.refl _) .nil)),api_weak g3 (.cons lE (.cons (Le.refl _) .nil))⟩
end Go.Proofs.YtaecchphjploaaaGreat
