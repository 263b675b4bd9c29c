/- homesteadlaw11.ChunkBack. -/
import Derived.Test.YtaecchphjploaaaGq
import Derived.Test.YtaecchphjploaaaGk
import Derived.Test.YtaecchphjploaaaGm
import Derived.Test.YtaecchphjploaaaGn
import Derived.Test.YtaecchphjploaaaGo
set_option linter.unusedSimpArgs false
set_option linter.unusedVariables false
set_option maxRecDepth 100000
set_option maxHeartbeats 16000000
namespace Go.Proofs.Ytaecchphjploaaa
open Go Go.RowKit Eng
theorem back_bags {c : Chunk} (h : rightB c = true) : ∀ x ∈ c.boxes,bagGood x.bag:=fun x hx s hs=>by
 have ho:=okC_right h
 have h1:=(ho.boxes x hx).1 s hs
 have h2:=okN_slot (any_false (by simpa only [bagOk,Bool.not_eq_true'] using (right_bag h hx).2) hs)
 exact ⟨h1,by omega,by omega⟩
theorem back_read {c : Chunk} (h : rightB c = true) : readC (bytesC c) = (c,0) ∧ okU8 (bytesC c):=by
 have ho:=okC_right h
 have hu:=u8_bytesC h ho.cells ho.heaps (back_bags h)
 exact ⟨readC_bytes hu h ho.heaps (back_bags h),hu⟩
theorem back_drop {c : Chunk} (h : rightB c = true) (t : Int) (s : Slot) : rightB (dropC c t s).1 = true:=by
 by_cases ht : 0 ≤ t ∧ t < 64
 · exact drop_right h ht
 · unfold dropC;rw [if_neg (by rw [h];simp),if_pos ht];exact h
theorem back_set {c : Chunk} (h : rightB c = true) (t i : Int) : rightB (setC c t i).1 = true:=by
 by_cases ht : 0 ≤ t ∧ t < 64
 · exact right_setC h ht.1 ht.2
 · unfold setC;rw [if_neg (by rw [h];simp),if_pos ht];exact h
theorem back_lift {c : Chunk} (h : rightB c = true) (t : Int) : (liftC c t).1.heaps.length + (liftC c t).2.length = c.heaps.length:=by
 unfold liftC
 rw [if_pos h]
 show (keptH t c.heaps).length + (hitsH t c.heaps).length = _
 unfold keptH hitsH
 rw [List.length_map]
 induction c.heaps with
 | nil=>rfl
 | cons a r ih =>
   rw [List.filter_cons,List.filter_cons]
   by_cases ha : a.cell = t
   · simp [hit,miss,ha] at ih ⊢;omega
   · simp [hit,miss,ha] at ih ⊢;omega
abbrev caseB (cell item si sn : Int) (bag : List Slot) (bs : List Int) : AV:=.agg [i64 cell,u8 item,u8 si,i64 sn,.vec .slot bag,.vec .u8 bs]
theorem cbackNo_api (c : Chunk) (hc : OkC c) (cell item si sn : Int) (bag : List (El .slot)) (bs : List (El .u8)) (g : Bool) (hgr : Api Try.prog 5 [chunkV c] (bol g)) (hno : g = true ∨ 300 < bag.length ∨ 5000 < bs.length) : Api Try.prog 3 [chunkV c,caseB cell item si sn bag bs] (bol true):=by
 have haw:=awake_api
 cases g
 all_goals
   refine Api.of_fin cfg_ok Try.func3 rfl (nt:=189) rfl rfl ?_
   ((repeat (first|(with_reducible refine evCut fun N hN hE hT=>?_)|(with_reducible refine evBlk fun N hN hE hT=>?_)));(try with_reducible refine evCnd fun X Y hX hY=>?_);(conv=>whnf))
   repeat' (first|exact trivial|((first|((first|refine hT _ _ ?_|refine hE _ _ _ ?_|refine hN _ _ ?_);clear hN hE hT)|((first|refine hX ?_|refine hY ?_);clear hX hY)|refine kL ?_|(refine ⟨fun hb=>?_,fun hb=>?_⟩<;>(try simp only [nrm] at hb)<;>(try (first|(exfalso;omega)|contradiction|exact kB hb)))|refine kA hgr ?_|refine kD hgr ?_|refine kA haw ?_|refine kD haw ?_|refine kW cfg_ok ?_|refine kC ?_|refine bdA ?_|refine bd2 ?_|refine bdR ?_|refine bdL ?_)<;>((repeat (first|(with_reducible refine evCut fun N hN hE hT=>?_)|(with_reducible refine evBlk fun N hN hE hT=>?_)));(try with_reducible refine evCnd fun X Y hX hY=>?_);(conv=>whnf)))|(refine And.intro ?_ ?_;rotate_left;(conv=>whnf);rotate_right))
   all_goals first|rfl|omega|(exfalso;omega)|(exfalso;simp at hno;omega)|trace_state
theorem cbackW_api (c : Chunk) (hc : OkC c) (cell item si sn : Int) (bag : List (El .slot)) (bs : List (El .u8)) (h8 : okU8 bs) (hgr : Api Try.prog 5 [chunkV c] (bol false)) (hl1 : bag.length ≤ 300) (hl2 : bs.length ≤ 5000) (D : Chunk) (e : Int) (hrd : Api Try.prog 7 [.vec .u8 bs] (.tup [chunkV D,i64 e])) (hby : e = 0 → Api Try.prog 8 [chunkV D] (.tup [.vec .u8 bs,i64 0]) ∧ Api Try.prog 10 [chunkV D] (bol true)) (heq : Api Try.prog 9 [.vec .u8 bs,.vec .u8 bs] (bol true)) (hbc : Api Try.prog 8 [chunkV c] (.tup [.vec .u8 [],i64 101])) (hrc : Api Try.prog 10 [chunkV c] (bol false)) : Api Try.prog 3 [chunkV c,caseB cell item si sn bag bs] (bol true):=by
 have haw:=awake_api
 by_cases he : e = 0
 · obtain ⟨hb1,hb2⟩:=hby he
   subst he
   refine Api.of_fin cfg_ok Try.func3 rfl (nt:=189) rfl rfl ?_
   ((repeat (first|(with_reducible refine evCut fun N hN hE hT=>?_)|(with_reducible refine evBlk fun N hN hE hT=>?_)));(try with_reducible refine evCnd fun X Y hX hY=>?_);(conv=>whnf))
   repeat' (first|exact trivial|((first|((first|refine hT _ _ ?_|refine hE _ _ _ ?_|refine hN _ _ ?_);clear hN hE hT)|((first|refine hX ?_|refine hY ?_);clear hX hY)|refine kL ?_|(refine ⟨fun hb=>?_,fun hb=>?_⟩<;>(try simp only [nrm] at hb)<;>(try (first|(exfalso;omega)|contradiction|exact kB hb)))|refine kA hgr ?_|refine kD hgr ?_|refine kA hrd ?_|refine kD hrd ?_|refine kA hb1 ?_|refine kD hb1 ?_|refine kA hb2 ?_|refine kD hb2 ?_|refine kA heq ?_|refine kD heq ?_|refine kA hbc ?_|refine kD hbc ?_|refine kA hrc ?_|refine kD hrc ?_|refine kA haw ?_|refine kD haw ?_|refine kW cfg_ok ?_|refine kC ?_|refine bdA ?_|refine bd2 ?_|refine bdR ?_|refine bdL ?_)<;>((repeat (first|(with_reducible refine evCut fun N hN hE hT=>?_)|(with_reducible refine evBlk fun N hN hE hT=>?_)));(try with_reducible refine evCnd fun X Y hX hY=>?_);(conv=>whnf)))|(refine And.intro ?_ ?_;rotate_left;(conv=>whnf);rotate_right))
   all_goals first|rfl|omega|(exfalso;omega)|trace_state
 · clear hby
   refine Api.of_fin cfg_ok Try.func3 rfl (nt:=189) rfl rfl ?_
   ((repeat (first|(with_reducible refine evCut fun N hN hE hT=>?_)|(with_reducible refine evBlk fun N hN hE hT=>?_)));(try with_reducible refine evCnd fun X Y hX hY=>?_);(conv=>whnf))
   repeat' (first|exact trivial|((first|((first|refine hT _ _ ?_|refine hE _ _ _ ?_|refine hN _ _ ?_);clear hN hE hT)|((first|refine hX ?_|refine hY ?_);clear hX hY)|refine kL ?_|(refine ⟨fun hb=>?_,fun hb=>?_⟩<;>(try simp only [nrm] at hb)<;>(try (first|(exfalso;omega)|contradiction|exact kB hb)))|refine kA hgr ?_|refine kD hgr ?_|refine kA hrd ?_|refine kD hrd ?_|refine kA heq ?_|refine kD heq ?_|refine kA hbc ?_|refine kD hbc ?_|refine kA hrc ?_|refine kD hrc ?_|refine kA haw ?_|refine kD haw ?_|refine kW cfg_ok ?_|refine kC ?_|refine bdA ?_|refine bd2 ?_|refine bdR ?_|refine bdL ?_)<;>((repeat (first|(with_reducible refine evCut fun N hN hE hT=>?_)|(with_reducible refine evBlk fun N hN hE hT=>?_)));(try with_reducible refine evCnd fun X Y hX hY=>?_);(conv=>whnf)))|(refine And.intro ?_ ?_;rotate_left;(conv=>whnf);rotate_right))
   all_goals first|rfl|omega|(exfalso;omega)|trace_state
abbrev chunkJC (c : Chunk) : List AV:=[i64 c.x,i64 c.y,.fec true .u8 c.cells,.vec .heap c.heaps,.vec .box c.boxes]
abbrev chunkKC (c : Chunk) : List AV:=[i64 c.x,i64 c.y,.fec true .u8 c.cells,.fec true .heap c.heaps,.vec .boxJ c.boxes]
theorem cbackR_api (c : Chunk) (hc : OkC c) (cell item si sn : Int) (bag : List (El .slot)) (bs : List (El .u8)) (h8 : okU8 bs) (hgr : Api Try.prog 5 [chunkV c] (bol false)) (hl1 : bag.length ≤ 300) (hl2 : bs.length ≤ 5000) (D : Chunk) (e : Int) (hrd : Api Try.prog 7 [.vec .u8 bs] (.tup [chunkV D,i64 e])) (hby : e = 0 → Api Try.prog 8 [chunkV D] (.tup [.vec .u8 bs,i64 0]) ∧ Api Try.prog 10 [chunkV D] (bol true)) (heq : Api Try.prog 9 [.vec .u8 bs,.vec .u8 bs] (bol true)) (B : List (El .u8)) (hbc : Api Try.prog 8 [chunkV c] (.tup [.vec .u8 B,i64 0])) (hrb : Api Try.prog 7 [.vec .u8 B] (.tup [chunkV c,i64 0])) (K L M Z : Chunk) (got : List (El .slot)) (e1 e2 e3 : Int) (hdr : Api Try.prog 12 [chunkV c,i64 cell,.agg [u8 si,i64 sn]] (.tup [chunkV K,i64 e1])) (hlf : Api Try.prog 13 [chunkV K,i64 cell] (.tup [chunkV L,.vec .slot got])) (hst : Api Try.prog 14 [chunkV c,i64 cell,u8 item] (.tup [chunkSV M,i64 e2])) (hfl : Api Try.prog 15 [chunkV M,i64 cell,.vec .slot bag] (.tup [chunkNV Z,i64 e3])) (hk : Api Try.prog 10 [chunkV K] (bol true)) (hl : Api Try.prog 10 [chunkV L] (bol true)) (hm : Api Try.prog 10 [chunkV M] (bol true)) (hn : Api Try.prog 10 [chunkV Z] (bol true)) (hlen : L.heaps.length + got.length = K.heaps.length) (hK : K.heaps.length ≤ 32) (hM : M.cells.length = 64) (hN : Z.boxes.length ≤ 64) (hbag : ∀ k : Nat,k < Z.boxes.length → (elt .box Z.boxes k).bag.length = 6) : Api Try.prog 3 [chunkV c,caseB cell item si sn bag bs] (bol true):=by
 have haw:=awake_api
 have hsf:=same_self c hc
 have hl3 : ((L.heaps.length : Int) + got.length) = K.heaps.length:=by omega
 have hL3 : L.heaps.length ≤ 32:=by omega
 have hG3 : got.length ≤ 32:=by omega
 obtain ⟨bz,hb1,hb2⟩ : ∃ bz : Bool,(bz = false ∨ e ≠ 0 ∨ True) ∧ True:=⟨false,.inl rfl,trivial⟩
 clear hb1 hb2 bz
 rcases Classical.em (e = 0) with he|he
 · obtain ⟨hb1,hb2⟩:=hby he
   subst he
   clear hby
   refine Api.of_fin cfg_ok Try.func3 rfl (nt:=189) rfl rfl ?_
   ((repeat (first|(with_reducible refine evCut fun N hN hE hT=>?_)|(with_reducible refine evBlk fun N hN hE hT=>?_)));(try with_reducible refine evCnd fun X Y hX hY=>?_);(conv=>whnf))
   repeat' (first|exact trivial|((first|((first|refine hT _ _ ?_|refine hE _ _ _ ?_|refine hN _ _ ?_);clear hN hE hT)|((first|refine hX ?_|refine hY ?_);clear hX hY)|refine kL ?_|(refine ⟨fun hb=>?_,fun hb=>?_⟩<;>(try simp only [nrm] at hb)<;>(try (first|(exfalso;omega)|contradiction|exact kB hb)))|refine kA hgr ?_|refine kD hgr ?_|refine kA hrd ?_|refine kD hrd ?_|refine kA hb1 ?_|refine kD hb1 ?_|refine kA hb2 ?_|refine kD hb2 ?_|refine kA heq ?_|refine kD heq ?_|refine kA hbc ?_|refine kD hbc ?_|refine kA hrb ?_|refine kD hrb ?_|refine kA hsf ?_|refine kD hsf ?_|refine kA hdr ?_|refine kD hdr ?_|refine kA hlf ?_|refine kD hlf ?_|refine kA hst ?_|refine kD hst ?_|refine kW cfg_ok ?_|refine kC ?_|refine bdA ?_|refine bd2 ?_|refine bdR ?_|refine bdL ?_)<;>((repeat (first|(with_reducible refine evCut fun N hN hE hT=>?_)|(with_reducible refine evBlk fun N hN hE hT=>?_)));(try with_reducible refine evCnd fun X Y hX hY=>?_);(conv=>whnf)))|(refine And.intro ?_ ?_;rotate_left;(conv=>whnf);rotate_right))
   all_goals try (first|omega|(exfalso;omega))
   clear hgr hrd hb1 hb2 heq hbc hrb hdr hlf hst
   refine kU hfl ?_ rfl rfl rfl
   conv=>whnf
   repeat' (first|exact trivial|((first|((first|refine hT _ _ ?_|refine hE _ _ _ ?_|refine hN _ _ ?_);clear hN hE hT)|((first|refine hX ?_|refine hY ?_);clear hX hY)|refine kL ?_|(refine ⟨fun hb=>?_,fun hb=>?_⟩<;>(try simp only [nrm] at hb)<;>(try (first|(exfalso;omega)|contradiction|exact kB hb)))|(refine kU hm ?_ rfl rfl rfl)|(refine kU hn ?_ rfl rfl rfl)|refine kA hk ?_|refine kD hk ?_|refine kA hl ?_|refine kD hl ?_|refine kW cfg_ok ?_|refine kC ?_|refine bdA ?_|refine bd2 ?_|refine bdR ?_|refine bdL ?_)<;>((repeat (first|(with_reducible refine evCut fun N hN hE hT=>?_)|(with_reducible refine evBlk fun N hN hE hT=>?_)));(try with_reducible refine evCnd fun X Y hX hY=>?_);(conv=>whnf)))|(refine And.intro ?_ ?_;rotate_left;(conv=>whnf);rotate_right))
   all_goals try (first|omega|(exfalso;omega))
   refine Runs.burn ?_
   refine Runs.loopS cfg_ok (σ:=Nat) [2,11,17,19,161,162] (fun i=>[.ptr 4 0,.ptr 22 0,.ptr 34 0,.ptr 38 0,i64 M.cells.length,i64 i])
     (fun i=>[(4,.box (chunkC c)),(22,.box (chunkC c)),(34,.box (chunkJC M)),(38,.box (chunkKC Z))])
     (fun i=>i ≤ M.cells.length) (fun i=>M.cells.length - i) 0 (by omega) ?_ ?_
   · conv=>whnf
     repeat' (first|exact trivial|((first|((first|refine hT _ _ ?_|refine hE _ _ _ ?_|refine hN _ _ ?_);clear hN hE hT)|((first|refine hX ?_|refine hY ?_);clear hX hY)|refine kL ?_|(refine ⟨fun hb=>?_,fun hb=>?_⟩<;>(try simp only [nrm] at hb)<;>(try (first|(exfalso;omega)|contradiction|exact kB hb)))|refine kW cfg_ok ?_|refine kC ?_|refine bdA ?_|refine bd2 ?_|refine bdR ?_|refine bdL ?_)<;>((repeat (first|(with_reducible refine evCut fun N hN hE hT=>?_)|(with_reducible refine evBlk fun N hN hE hT=>?_)));(try with_reducible refine evCnd fun X Y hX hY=>?_);(conv=>whnf)))|(refine And.intro ?_ ?_;rotate_left;(conv=>whnf);rotate_right))
     all_goals first|rfl|omega|trace_state
   · intro i hi
     by_cases hli : i < M.cells.length
     · conv=>whnf
       repeat' (first|exact trivial|((first|((first|refine hT _ _ ?_|refine hE _ _ _ ?_|refine hN _ _ ?_);clear hN hE hT)|((first|refine hX ?_|refine hY ?_);clear hX hY)|refine kL ?_|(refine ⟨fun hb=>?_,fun hb=>?_⟩<;>(try simp only [nrm] at hb)<;>(try (first|(exfalso;omega)|contradiction|exact kB hb)))|refine kW cfg_ok ?_|refine kC ?_|refine bdA ?_|refine bd2 ?_|refine bdR ?_|refine bdL ?_)<;>((repeat (first|(with_reducible refine evCut fun N hN hE hT=>?_)|(with_reducible refine evBlk fun N hN hE hT=>?_)));(try with_reducible refine evCnd fun X Y hX hY=>?_);(conv=>whnf)))|(refine And.intro ?_ ?_;rotate_left;(conv=>whnf);rotate_right))
       all_goals try (first|omega|(exfalso;omega))
       refine .to (i + 1) (by omega) (by omega) ?_
       conv=>whnf
       repeat' (first|exact trivial|((first|((first|refine hT _ _ ?_|refine hE _ _ _ ?_|refine hN _ _ ?_);clear hN hE hT)|((first|refine hX ?_|refine hY ?_);clear hX hY)|refine kL ?_|(refine ⟨fun hb=>?_,fun hb=>?_⟩<;>(try simp only [nrm] at hb)<;>(try (first|(exfalso;omega)|contradiction|exact kB hb)))|refine kW cfg_ok ?_|refine kC ?_|refine bdA ?_|refine bd2 ?_|refine bdR ?_|refine bdL ?_)<;>((repeat (first|(with_reducible refine evCut fun N hN hE hT=>?_)|(with_reducible refine evBlk fun N hN hE hT=>?_)));(try with_reducible refine evCnd fun X Y hX hY=>?_);(conv=>whnf)))|(refine And.intro ?_ ?_;rotate_left;(conv=>whnf);rotate_right))
       all_goals first|rfl|omega|trace_state
     · obtain rfl : i = M.cells.length:=by omega
       conv=>whnf
       repeat' (first|exact trivial|((first|((first|refine hT _ _ ?_|refine hE _ _ _ ?_|refine hN _ _ ?_);clear hN hE hT)|((first|refine hX ?_|refine hY ?_);clear hX hY)|refine kL ?_|(refine ⟨fun hb=>?_,fun hb=>?_⟩<;>(try simp only [nrm] at hb)<;>(try (first|(exfalso;omega)|contradiction|exact kB hb)))|refine kW cfg_ok ?_|refine kC ?_|refine bdA ?_|refine bd2 ?_|refine bdR ?_|refine bdL ?_)<;>((repeat (first|(with_reducible refine evCut fun N hN hE hT=>?_)|(with_reducible refine evBlk fun N hN hE hT=>?_)));(try with_reducible refine evCnd fun X Y hX hY=>?_);(conv=>whnf)))|(refine And.intro ?_ ?_;rotate_left;(conv=>whnf);rotate_right))
       all_goals try (first|omega|(exfalso;omega))
       refine Runs.loopS cfg_ok (σ:=Nat) [2,11,19,172,173] (fun i=>[.ptr 4 0,.ptr 22 0,.ptr 38 0,i64 Z.boxes.length,i64 i])
         (fun i=>[(4,.box (chunkC c)),(22,.box (chunkC c)),(38,.box (chunkKC Z))])
         (fun i=>i ≤ Z.boxes.length) (fun i=>Z.boxes.length - i) 0 (by omega) ?_ ?_
       · conv=>whnf
         repeat' (first|exact trivial|((first|((first|refine hT _ _ ?_|refine hE _ _ _ ?_|refine hN _ _ ?_);clear hN hE hT)|((first|refine hX ?_|refine hY ?_);clear hX hY)|refine kL ?_|(refine ⟨fun hb=>?_,fun hb=>?_⟩<;>(try simp only [nrm] at hb)<;>(try (first|(exfalso;omega)|contradiction|exact kB hb)))|refine kW cfg_ok ?_|refine kC ?_|refine bdA ?_|refine bd2 ?_|refine bdR ?_|refine bdL ?_)<;>((repeat (first|(with_reducible refine evCut fun N hN hE hT=>?_)|(with_reducible refine evBlk fun N hN hE hT=>?_)));(try with_reducible refine evCnd fun X Y hX hY=>?_);(conv=>whnf)))|(refine And.intro ?_ ?_;rotate_left;(conv=>whnf);rotate_right))
         all_goals first|rfl|omega|trace_state
       · intro k hk9
         by_cases hlk : k < Z.boxes.length
         · have hb6:=hbag k hlk
           have hb7 : (elt .boxJ Z.boxes (((k : Nat) : Int).toNat)).bag.length = 6:=hb6
           conv=>whnf
           repeat' (first|exact trivial|((first|((first|refine hT _ _ ?_|refine hE _ _ _ ?_|refine hN _ _ ?_);clear hN hE hT)|((first|refine hX ?_|refine hY ?_);clear hX hY)|refine kL ?_|(refine ⟨fun hb=>?_,fun hb=>?_⟩<;>(try simp only [nrm] at hb)<;>(try (first|(exfalso;omega)|contradiction|exact kB hb)))|refine kW cfg_ok ?_|refine kC ?_|refine bdA ?_|refine bd2 ?_|refine bdR ?_|refine bdL ?_)<;>((repeat (first|(with_reducible refine evCut fun N hN hE hT=>?_)|(with_reducible refine evBlk fun N hN hE hT=>?_)));(try with_reducible refine evCnd fun X Y hX hY=>?_);(conv=>whnf)))|(refine And.intro ?_ ?_;rotate_left;(conv=>whnf);rotate_right))
           all_goals try (first|omega|(exfalso;omega))
           refine .to (k + 1) (by omega) (by omega) ?_
           conv=>whnf
           repeat' (first|exact trivial|((first|((first|refine hT _ _ ?_|refine hE _ _ _ ?_|refine hN _ _ ?_);clear hN hE hT)|((first|refine hX ?_|refine hY ?_);clear hX hY)|refine kL ?_|(refine ⟨fun hb=>?_,fun hb=>?_⟩<;>(try simp only [nrm] at hb)<;>(try (first|(exfalso;omega)|contradiction|exact kB hb)))|refine kW cfg_ok ?_|refine kC ?_|refine bdA ?_|refine bd2 ?_|refine bdR ?_|refine bdL ?_)<;>((repeat (first|(with_reducible refine evCut fun N hN hE hT=>?_)|(with_reducible refine evBlk fun N hN hE hT=>?_)));(try with_reducible refine evCnd fun X Y hX hY=>?_);(conv=>whnf)))|(refine And.intro ?_ ?_;rotate_left;(conv=>whnf);rotate_right))
           all_goals first|rfl|omega|trace_state
         · obtain rfl : k = Z.boxes.length:=by omega
           conv=>whnf
           repeat' (first|exact trivial|((first|((first|refine hT _ _ ?_|refine hE _ _ _ ?_|refine hN _ _ ?_);clear hN hE hT)|((first|refine hX ?_|refine hY ?_);clear hX hY)|refine kL ?_|(refine ⟨fun hb=>?_,fun hb=>?_⟩<;>(try simp only [nrm] at hb)<;>(try (first|(exfalso;omega)|contradiction|exact kB hb)))|refine kA hsf ?_|refine kD hsf ?_|refine kA haw ?_|refine kD haw ?_|refine kW cfg_ok ?_|refine kC ?_|refine bdA ?_|refine bd2 ?_|refine bdR ?_|refine bdL ?_)<;>((repeat (first|(with_reducible refine evCut fun N hN hE hT=>?_)|(with_reducible refine evBlk fun N hN hE hT=>?_)));(try with_reducible refine evCnd fun X Y hX hY=>?_);(conv=>whnf)))|(refine And.intro ?_ ?_;rotate_left;(conv=>whnf);rotate_right))
           all_goals first|rfl|omega|(exfalso;omega)|trace_state
 · clear hby
   refine Api.of_fin cfg_ok Try.func3 rfl (nt:=189) rfl rfl ?_
   ((repeat (first|(with_reducible refine evCut fun N hN hE hT=>?_)|(with_reducible refine evBlk fun N hN hE hT=>?_)));(try with_reducible refine evCnd fun X Y hX hY=>?_);(conv=>whnf))
   repeat' (first|exact trivial|((first|((first|refine hT _ _ ?_|refine hE _ _ _ ?_|refine hN _ _ ?_);clear hN hE hT)|((first|refine hX ?_|refine hY ?_);clear hX hY)|refine kL ?_|(refine ⟨fun hb=>?_,fun hb=>?_⟩<;>(try simp only [nrm] at hb)<;>(try (first|(exfalso;omega)|contradiction|exact kB hb)))|refine kA hgr ?_|refine kD hgr ?_|refine kA hrd ?_|refine kD hrd ?_|refine kA heq ?_|refine kD heq ?_|refine kA hbc ?_|refine kD hbc ?_|refine kA hrb ?_|refine kD hrb ?_|refine kA hsf ?_|refine kD hsf ?_|refine kA hdr ?_|refine kD hdr ?_|refine kA hlf ?_|refine kD hlf ?_|refine kA hst ?_|refine kD hst ?_|refine kW cfg_ok ?_|refine kC ?_|refine bdA ?_|refine bd2 ?_|refine bdR ?_|refine bdL ?_)<;>((repeat (first|(with_reducible refine evCut fun N hN hE hT=>?_)|(with_reducible refine evBlk fun N hN hE hT=>?_)));(try with_reducible refine evCnd fun X Y hX hY=>?_);(conv=>whnf)))|(refine And.intro ?_ ?_;rotate_left;(conv=>whnf);rotate_right))
   all_goals try (first|omega|(exfalso;omega))
   clear hgr hrd heq hbc hrb hdr hlf hst
   refine kU hfl ?_ rfl rfl rfl
   conv=>whnf
   repeat' (first|exact trivial|((first|((first|refine hT _ _ ?_|refine hE _ _ _ ?_|refine hN _ _ ?_);clear hN hE hT)|((first|refine hX ?_|refine hY ?_);clear hX hY)|refine kL ?_|(refine ⟨fun hb=>?_,fun hb=>?_⟩<;>(try simp only [nrm] at hb)<;>(try (first|(exfalso;omega)|contradiction|exact kB hb)))|(refine kU hm ?_ rfl rfl rfl)|(refine kU hn ?_ rfl rfl rfl)|refine kA hk ?_|refine kD hk ?_|refine kA hl ?_|refine kD hl ?_|refine kW cfg_ok ?_|refine kC ?_|refine bdA ?_|refine bd2 ?_|refine bdR ?_|refine bdL ?_)<;>((repeat (first|(with_reducible refine evCut fun N hN hE hT=>?_)|(with_reducible refine evBlk fun N hN hE hT=>?_)));(try with_reducible refine evCnd fun X Y hX hY=>?_);(conv=>whnf)))|(refine And.intro ?_ ?_;rotate_left;(conv=>whnf);rotate_right))
   all_goals try (first|omega|(exfalso;omega))
   refine Runs.burn ?_
   refine Runs.loopS cfg_ok (σ:=Nat) [2,11,17,19,161,162] (fun i=>[.ptr 4 0,.ptr 22 0,.ptr 34 0,.ptr 38 0,i64 M.cells.length,i64 i])
     (fun i=>[(4,.box (chunkC c)),(22,.box (chunkC c)),(34,.box (chunkJC M)),(38,.box (chunkKC Z))])
     (fun i=>i ≤ M.cells.length) (fun i=>M.cells.length - i) 0 (by omega) ?_ ?_
   · conv=>whnf
     repeat' (first|exact trivial|((first|((first|refine hT _ _ ?_|refine hE _ _ _ ?_|refine hN _ _ ?_);clear hN hE hT)|((first|refine hX ?_|refine hY ?_);clear hX hY)|refine kL ?_|(refine ⟨fun hb=>?_,fun hb=>?_⟩<;>(try simp only [nrm] at hb)<;>(try (first|(exfalso;omega)|contradiction|exact kB hb)))|refine kW cfg_ok ?_|refine kC ?_|refine bdA ?_|refine bd2 ?_|refine bdR ?_|refine bdL ?_)<;>((repeat (first|(with_reducible refine evCut fun N hN hE hT=>?_)|(with_reducible refine evBlk fun N hN hE hT=>?_)));(try with_reducible refine evCnd fun X Y hX hY=>?_);(conv=>whnf)))|(refine And.intro ?_ ?_;rotate_left;(conv=>whnf);rotate_right))
     all_goals first|rfl|omega|trace_state
   · intro i hi
     by_cases hli : i < M.cells.length
     · conv=>whnf
       repeat' (first|exact trivial|((first|((first|refine hT _ _ ?_|refine hE _ _ _ ?_|refine hN _ _ ?_);clear hN hE hT)|((first|refine hX ?_|refine hY ?_);clear hX hY)|refine kL ?_|(refine ⟨fun hb=>?_,fun hb=>?_⟩<;>(try simp only [nrm] at hb)<;>(try (first|(exfalso;omega)|contradiction|exact kB hb)))|refine kW cfg_ok ?_|refine kC ?_|refine bdA ?_|refine bd2 ?_|refine bdR ?_|refine bdL ?_)<;>((repeat (first|(with_reducible refine evCut fun N hN hE hT=>?_)|(with_reducible refine evBlk fun N hN hE hT=>?_)));(try with_reducible refine evCnd fun X Y hX hY=>?_);(conv=>whnf)))|(refine And.intro ?_ ?_;rotate_left;(conv=>whnf);rotate_right))
       all_goals try (first|omega|(exfalso;omega))
       refine .to (i + 1) (by omega) (by omega) ?_
       conv=>whnf
       repeat' (first|exact trivial|((first|((first|refine hT _ _ ?_|refine hE _ _ _ ?_|refine hN _ _ ?_);clear hN hE hT)|((first|refine hX ?_|refine hY ?_);clear hX hY)|refine kL ?_|(refine ⟨fun hb=>?_,fun hb=>?_⟩<;>(try simp only [nrm] at hb)<;>(try (first|(exfalso;omega)|contradiction|exact kB hb)))|refine kW cfg_ok ?_|refine kC ?_|refine bdA ?_|refine bd2 ?_|refine bdR ?_|refine bdL ?_)<;>((repeat (first|(with_reducible refine evCut fun N hN hE hT=>?_)|(with_reducible refine evBlk fun N hN hE hT=>?_)));(try with_reducible refine evCnd fun X Y hX hY=>?_);(conv=>whnf)))|(refine And.intro ?_ ?_;rotate_left;(conv=>whnf);rotate_right))
       all_goals first|rfl|omega|trace_state
     · obtain rfl : i = M.cells.length:=by omega
       conv=>whnf
       repeat' (first|exact trivial|((first|((first|refine hT _ _ ?_|refine hE _ _ _ ?_|refine hN _ _ ?_);clear hN hE hT)|((first|refine hX ?_|refine hY ?_);clear hX hY)|refine kL ?_|(refine ⟨fun hb=>?_,fun hb=>?_⟩<;>(try simp only [nrm] at hb)<;>(try (first|(exfalso;omega)|contradiction|exact kB hb)))|refine kW cfg_ok ?_|refine kC ?_|refine bdA ?_|refine bd2 ?_|refine bdR ?_|refine bdL ?_)<;>((repeat (first|(with_reducible refine evCut fun N hN hE hT=>?_)|(with_reducible refine evBlk fun N hN hE hT=>?_)));(try with_reducible refine evCnd fun X Y hX hY=>?_);(conv=>whnf)))|(refine And.intro ?_ ?_;rotate_left;(conv=>whnf);rotate_right))
       all_goals try (first|omega|(exfalso;omega))
       refine Runs.loopS cfg_ok (σ:=Nat) [2,11,19,172,173] (fun i=>[.ptr 4 0,.ptr 22 0,.ptr 38 0,i64 Z.boxes.length,i64 i])
         (fun i=>[(4,.box (chunkC c)),(22,.box (chunkC c)),(38,.box (chunkKC Z))])
         (fun i=>i ≤ Z.boxes.length) (fun i=>Z.boxes.length - i) 0 (by omega) ?_ ?_
       · conv=>whnf
         repeat' (first|exact trivial|((first|((first|refine hT _ _ ?_|refine hE _ _ _ ?_|refine hN _ _ ?_);clear hN hE hT)|((first|refine hX ?_|refine hY ?_);clear hX hY)|refine kL ?_|(refine ⟨fun hb=>?_,fun hb=>?_⟩<;>(try simp only [nrm] at hb)<;>(try (first|(exfalso;omega)|contradiction|exact kB hb)))|refine kW cfg_ok ?_|refine kC ?_|refine bdA ?_|refine bd2 ?_|refine bdR ?_|refine bdL ?_)<;>((repeat (first|(with_reducible refine evCut fun N hN hE hT=>?_)|(with_reducible refine evBlk fun N hN hE hT=>?_)));(try with_reducible refine evCnd fun X Y hX hY=>?_);(conv=>whnf)))|(refine And.intro ?_ ?_;rotate_left;(conv=>whnf);rotate_right))
         all_goals first|rfl|omega|trace_state
       · intro k hk9
         by_cases hlk : k < Z.boxes.length
         · have hb6:=hbag k hlk
           have hb7 : (elt .boxJ Z.boxes (((k : Nat) : Int).toNat)).bag.length = 6:=hb6
           conv=>whnf
           repeat' (first|exact trivial|((first|((first|refine hT _ _ ?_|refine hE _ _ _ ?_|refine hN _ _ ?_);clear hN hE hT)|((first|refine hX ?_|refine hY ?_);clear hX hY)|refine kL ?_|(refine ⟨fun hb=>?_,fun hb=>?_⟩<;>(try simp only [nrm] at hb)<;>(try (first|(exfalso;omega)|contradiction|exact kB hb)))|refine kW cfg_ok ?_|refine kC ?_|refine bdA ?_|refine bd2 ?_|refine bdR ?_|refine bdL ?_)<;>((repeat (first|(with_reducible refine evCut fun N hN hE hT=>?_)|(with_reducible refine evBlk fun N hN hE hT=>?_)));(try with_reducible refine evCnd fun X Y hX hY=>?_);(conv=>whnf)))|(refine And.intro ?_ ?_;rotate_left;(conv=>whnf);rotate_right))
           all_goals try (first|omega|(exfalso;omega))
           refine .to (k + 1) (by omega) (by omega) ?_
           conv=>whnf
           repeat' (first|exact trivial|((first|((first|refine hT _ _ ?_|refine hE _ _ _ ?_|refine hN _ _ ?_);clear hN hE hT)|((first|refine hX ?_|refine hY ?_);clear hX hY)|refine kL ?_|(refine ⟨fun hb=>?_,fun hb=>?_⟩<;>(try simp only [nrm] at hb)<;>(try (first|(exfalso;omega)|contradiction|exact kB hb)))|refine kW cfg_ok ?_|refine kC ?_|refine bdA ?_|refine bd2 ?_|refine bdR ?_|refine bdL ?_)<;>((repeat (first|(with_reducible refine evCut fun N hN hE hT=>?_)|(with_reducible refine evBlk fun N hN hE hT=>?_)));(try with_reducible refine evCnd fun X Y hX hY=>?_);(conv=>whnf)))|(refine And.intro ?_ ?_;rotate_left;(conv=>whnf);rotate_right))
           all_goals first|rfl|omega|trace_state
         · obtain rfl : k = Z.boxes.length:=by omega
           conv=>whnf
           repeat' (first|exact trivial|((first|((first|refine hT _ _ ?_|refine hE _ _ _ ?_|refine hN _ _ ?_);clear hN hE hT)|((first|refine hX ?_|refine hY ?_);clear hX hY)|refine kL ?_|(refine ⟨fun hb=>?_,fun hb=>?_⟩<;>(try simp only [nrm] at hb)<;>(try (first|(exfalso;omega)|contradiction|exact kB hb)))|refine kA hsf ?_|refine kD hsf ?_|refine kA haw ?_|refine kD haw ?_|refine kW cfg_ok ?_|refine kC ?_|refine bdA ?_|refine bd2 ?_|refine bdR ?_|refine bdL ?_)<;>((repeat (first|(with_reducible refine evCut fun N hN hE hT=>?_)|(with_reducible refine evBlk fun N hN hE hT=>?_)));(try with_reducible refine evCnd fun X Y hX hY=>?_);(conv=>whnf)))|(refine And.intro ?_ ?_;rotate_left;(conv=>whnf);rotate_right))
           all_goals first|rfl|omega|(exfalso;omega)|trace_state
open Go Go.RowKit Eng
theorem cback_api (c : Chunk) (hc : OkC c) (hf : FitC c) (cell item si sn : Int) (bag : List (El .slot)) (bs : List (El .u8)) (hi : 0 ≤ item ∧ item ≤ 255) (hs : okSlot ⟨si,sn⟩) (hw : ∀ s ∈ bag,okSlot s) (h8 : okU8 bs) :
   Api Try.prog 3 [chunkV c,caseB cell item si sn bag bs] (bol true):=by
 by_cases hno : greatB c = true ∨ 300 < bag.length ∨ 5000 < bs.length
 · exact cbackNo_api c hc cell item si sn bag bs (greatB c) (great_api c hc) hno
 have hgf : greatB c = false:=by
   cases h : greatB c with
   | false=>rfl
   | true=>exact absurd (.inl h) hno
 have hl1 : bag.length ≤ 300:=Nat.le_of_not_lt fun h=>hno (.inr (.inl h))
 have hl2 : bs.length ≤ 5000:=Nat.le_of_not_lt fun h=>hno (.inr (.inr h))
 have hgr:=great_api c hc
 rw [hgf] at hgr
 have hrd:=cread_api bs h8 (by omega)
 have hby : (readC bs).2 = 0 → Api Try.prog 8 [chunkV (readC bs).1] (.tup [.vec .u8 bs,i64 0]) ∧ Api Try.prog 10 [chunkV (readC bs).1] (bol true):=fun he=>by
   obtain ⟨h1,h2⟩:=bytes_readC h8 he
   have h3:=bytes_api (readC bs).1 (okC_right h2)
   rw [if_pos h2,if_pos h2,h1] at h3
   have h4:=cright_api (readC bs).1 (okC_right h2)
   rw [h2] at h4
   exact ⟨h3,h4⟩
 have heq:=equal_api bs bs h8 h8
 rw [show eqL bs bs = true from decide_eq_true rfl] at heq
 have hrc:=cright_api c hc
 have hbc:=bytes_api c hc
 cases hR : rightB c with
 | false =>
   rw [hR] at hrc hbc
   rw [if_neg (by simp),if_neg (by simp)] at hbc
   exact cbackW_api c hc cell item si sn bag bs h8 hgr hl1 hl2 _ _ hrd hby heq hbc hrc
 | true =>
   rw [if_pos hR,if_pos hR] at hbc
   have hg:=goodC_right hR
   obtain ⟨hb1,hb2⟩:=back_read hR
   have hrb:=cread_api (bytesC c) hb2 (by have:=hg.le.1;omega)
   rw [hb1] at hrb
   have hdr:=drop_api c cell ⟨si,sn⟩ hc hf hs
   have k1:=back_drop hR cell ⟨si,sn⟩
   have hlf:=lift_api (dropC c cell ⟨si,sn⟩).1 cell (okC_right k1) (fitC_right k1)
   have k2:=(lift_right k1 cell).1
   have k3:=back_lift k1 cell
   have hst:=setF_api c cell item hc hf hi.1 hi.2
   have k4:=back_set hR cell item
   have hfl:=fillN_api (setC c cell item).1 cell bag (okC_right k4) (fitC_right k4) (by omega) hw
   have k5:=fill_right k4 cell bag
   have r1:=cright_api _ (okC_right k1)
   rw [k1] at r1
   have r2:=cright_api _ (okC_right k2)
   rw [k2] at r2
   have r3:=cright_api _ (okC_right k4)
   rw [k4] at r3
   have r4:=cright_api _ (okC_right k5)
   rw [k5] at r4
   exact cbackR_api c hc cell item si sn bag bs h8 hgr hl1 hl2 _ _ hrd hby heq _ hbc hrb _ _ _ _ _ _ _ _ hdr hlf hst hfl r1 r2 r3 r4 k3 (right_heaps k1) (right_len k4) (right_boxes k5)
     (fun k hk=>(right_bag k5 (elt_mem (t:=.box) hk)).1)
end Go.Proofs.Ytaecchphjploaaa
