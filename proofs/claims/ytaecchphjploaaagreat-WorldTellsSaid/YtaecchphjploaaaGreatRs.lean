/- homesteadlaw13.WorldTells. -/
import Derived.Test.YtaecchphjploaaaGreatGh
import Derived.Test.YtaecchphjploaaaGreatGx
import Derived.Test.YtaecchphjploaaaGreatGg
set_option linter.unusedSimpArgs false
set_option linter.unusedVariables false
set_option maxRecDepth 100000
set_option maxHeartbeats 16000000
namespace Go.Proofs.YtaecchphjploaaaGreat
open Go Go.RowKit Eng
theorem okC_chunkW {w : Wld} {x y : Int} : OkC (chunkW w x y).1:=by
 cases hR : rightW w with
 | true =>
   cases h : (chunkW w x y).2 with
   | true=>exact chunk_okC (rightW_iff.1 hR) h
   | false =>
     by_cases hin : 0 ≤ x ∧ x < w.size ∧ 0 ≤ y ∧ y < w.size
     · rw [chunkW_get (rightW_iff.1 hR) hin.1 hin.2.1 hin.2.2.1 hin.2.2.2] at h;cases h
     · rw [chunkW_out (.inr hin)];exact ⟨by simp [atC],by simp [atC],by simp [atC],by decide,by decide,by decide⟩
 | false=>rw [chunkW_out (.inl hR)];exact ⟨by simp [atC],by simp [atC],by simp [atC],by decide,by decide,by decide⟩
theorem okP_zero : OkP zeroP:=⟨by simp [zeroP],by simp [zeroP],by decide,by decide⟩
theorem okP_playerW {w : Wld} {id : Int} (hw : OkW w) : OkP (playerW w id).1:=by
 unfold playerW
 split
 · exact okP_zero
 · cases h : getK pid w.players id with
   | none=>exact okP_zero
   | some p=>exact hw.players _ (getK_mem h).1
theorem okW_zeroW : OkW zeroW:=⟨by simp [zeroW],by simp [zeroW],by simp [zeroW],by decide,by decide⟩
theorem okW_read {b : List Int} (h8 : okU8 b) : OkW (readW b).1:=by
 by_cases h : (readW b).2 = 0
 · exact okW_right (bytes_readW h8 h).2.1
 · have e : readW b = (zeroW,113):=by
     unfold readW at h ⊢
     split
     · rfl
     · rename_i c
       rw [if_neg c] at h
       exact absurd rfl h
   rw [e];exact okW_zeroW
theorem u8_bytesWE {w : Wld} (hs : 0 ≤ w.seed ∧ w.seed ≤ 18446744073709551615) : okU8 (bytesWE w).1:=by
 unfold bytesWE
 cases hR : rightW w with
 | true=>exact u8_bytesW ⟨rightW_iff.1 hR,hs⟩
 | false=>intro i hi;cases hi
abbrev caseT (X Y : Int) (c : Chunk) (p : Player) (b : List (El .u8)) : AV:=.agg [i64 X,i64 Y,i64 c.x,i64 c.y,.vec .u8 c.cells,.vec .heap c.heaps,.vec .box c.boxes,i64 p.id,i64 p.x,i64 p.y,.vec .slot p.bag,i64 p.wth,.vec .slot p.offer,bol p.agrees,.vec .u8 b]
theorem wtellNo_api (w : Wld) (X Y : Int) (c : Chunk) (p : Player) (b : List (El .u8)) (hw : OkW w) (hc : OkC c) (hg : greatW w = true ∨ greatB c = true ∨ 300 < p.bag.length ∨ 300 < p.offer.length ∨ 20000 < b.length) : Api Tryz.prog 3 [wldV w,caseT X Y c p b] (bol true):=by
 have haw:=awake13_api
 have hgr:=greatW_api w hw
 have hgc:=great_api c hc
 generalize greatW w = g1 at *
 generalize greatB c = g2 at *
 cases g1
 · cases g2
   · have hg : 300 < p.bag.length ∨ 300 < p.offer.length ∨ 20000 < b.length:=by simpa using hg
     refine Api.of_fin cfg_ok Tryz.func3 rfl (nt:=247) rfl rfl ?_
     ((repeat (first|(with_reducible refine evCut fun N hN hE hT=>?_)|(with_reducible refine evBlk fun N hN hE hT=>?_)));(try with_reducible refine evCnd fun X Y hX hY=>?_);(conv=>whnf))
     repeat' (first|exact trivial|((first|((first|refine hT _ _ ?_|refine hE _ _ _ ?_|refine hN _ _ ?_);clear hN hE hT)|((first|refine hX ?_|refine hY ?_);clear hX hY)|refine kL ?_|(refine ⟨fun hb=>?_,fun hb=>?_⟩<;>(try simp only [nrm] at hb)<;>(try (first|(exfalso;omega)|contradiction|exact kB hb)))|refine kA hgr ?_|refine kD hgr ?_|refine kA hgc ?_|refine kD hgc ?_|refine kA haw ?_|refine kD haw ?_|refine kW cfg_ok ?_|refine kC ?_|refine bdA ?_|refine bd2 ?_|refine bdR ?_|refine bdL ?_)<;>((repeat (first|(with_reducible refine evCut fun N hN hE hT=>?_)|(with_reducible refine evBlk fun N hN hE hT=>?_)));(try with_reducible refine evCnd fun X Y hX hY=>?_);(conv=>whnf)))|(refine And.intro ?_ ?_;rotate_left;(conv=>whnf);rotate_right))
   · clear hg
     refine Api.of_fin cfg_ok Tryz.func3 rfl (nt:=247) rfl rfl ?_
     ((repeat (first|(with_reducible refine evCut fun N hN hE hT=>?_)|(with_reducible refine evBlk fun N hN hE hT=>?_)));(try with_reducible refine evCnd fun X Y hX hY=>?_);(conv=>whnf))
     repeat' (first|exact trivial|((first|((first|refine hT _ _ ?_|refine hE _ _ _ ?_|refine hN _ _ ?_);clear hN hE hT)|((first|refine hX ?_|refine hY ?_);clear hX hY)|refine kL ?_|(refine ⟨fun hb=>?_,fun hb=>?_⟩<;>(try simp only [nrm] at hb)<;>(try (first|(exfalso;omega)|contradiction|exact kB hb)))|refine kA hgr ?_|refine kD hgr ?_|refine kA hgc ?_|refine kD hgc ?_|refine kA haw ?_|refine kD haw ?_|refine kW cfg_ok ?_|refine kC ?_|refine bdA ?_|refine bd2 ?_|refine bdR ?_|refine bdL ?_)<;>((repeat (first|(with_reducible refine evCut fun N hN hE hT=>?_)|(with_reducible refine evBlk fun N hN hE hT=>?_)));(try with_reducible refine evCnd fun X Y hX hY=>?_);(conv=>whnf)))|(refine And.intro ?_ ?_;rotate_left;(conv=>whnf);rotate_right))
 · clear hg
   refine Api.of_fin cfg_ok Tryz.func3 rfl (nt:=247) rfl rfl ?_
   ((repeat (first|(with_reducible refine evCut fun N hN hE hT=>?_)|(with_reducible refine evBlk fun N hN hE hT=>?_)));(try with_reducible refine evCnd fun X Y hX hY=>?_);(conv=>whnf))
   repeat' (first|exact trivial|((first|((first|refine hT _ _ ?_|refine hE _ _ _ ?_|refine hN _ _ ?_);clear hN hE hT)|((first|refine hX ?_|refine hY ?_);clear hX hY)|refine kL ?_|(refine ⟨fun hb=>?_,fun hb=>?_⟩<;>(try simp only [nrm] at hb)<;>(try (first|(exfalso;omega)|contradiction|exact kB hb)))|refine kA hgr ?_|refine kD hgr ?_|refine kA hgc ?_|refine kD hgc ?_|refine kA haw ?_|refine kD haw ?_|refine kW cfg_ok ?_|refine kC ?_|refine bdA ?_|refine bd2 ?_|refine bdR ?_|refine bdL ?_)<;>((repeat (first|(with_reducible refine evCut fun N hN hE hT=>?_)|(with_reducible refine evBlk fun N hN hE hT=>?_)));(try with_reducible refine evCnd fun X Y hX hY=>?_);(conv=>whnf)))|(refine And.intro ?_ ?_;rotate_left;(conv=>whnf);rotate_right))
theorem wtellY_api (w : Wld) (X Y : Int) (c : Chunk) (p : Player) (b : List (El .u8)) (hx : X ≤ 9223372036854775807) (hy : Y ≤ 9223372036854775807) (hw : OkW w) (hs : 0 ≤ w.seed ∧ w.seed ≤ 18446744073709551615) (hc : OkC c) (fc : FitC c) (hp : OkP p) (h8 : okU8 b) (hl : b.length ≤ 20000) (hg1 : greatW w = false) (hg2 : greatB c = false) (hb1 : p.bag.length ≤ 300) (hb2 : p.offer.length ≤ 300) : Api Tryz.prog 3 [wldV w,caseT X Y c p b] (bol true):=by
 have haw:=awake13_api
 have hgr:=greatW_api w hw
 have hgc:=great_api c hc
 rw [hg1] at hgr
 rw [hg2] at hgc
 have t1:=r13copied_api w hw
 have t2:=wchunk_api w X Y hw
 have t3:=r13chunk_api w X Y hw
 have t4:=at_api w X Y hw hx hy
 have t5:=r13at_api w X Y hw hx hy
 have t6:=rightW_api w hw
 have t7:=r13right_api w hw
 have t8:=same_api (chunkW w X Y).1 (chunkW w X Y).1 okC_chunkW
 have t9:=worldPut_api w c hw hc fc
 have t10:=r13put_api w c hw hc fc
 have t11:=set_world w p hw hp
 have t12:=r13set_api w p hw hp
 have t13:=wplayer_api w p.id hw
 have t14:=r13player_api w p.id hw
 have t15:=sameW_api (putW w c).1 (putW w c).1 (okW_put hw hc fc)
 have t16:=sameW_api (setW w p).1 (setW w p).1 (okW_set hw hp)
 have t17:=sameP_api (playerW w p.id).1 (playerW w p.id).1 (okP_playerW hw)
 have t18:=wbytes_api w hw hs
 have t19:=r13bytes_api w hw hs
 have t20:=wread_api b h8 (by omega) _ rfl
 have t21:=r13read_api b h8 (by omega) _ rfl
 have t22:=equal_api (bytesWE w).1 (bytesWE w).1 (u8_bytesWE hs) (u8_bytesWE hs)
 have t23:=sameW_api (readW b).1 (readW b).1 (okW_read h8)
 have t24:=sameW_api w w hw
 rw [eqv_self] at t8 t15 t16 t17 t23 t24
 rw [show eqL (bytesWE w).1 (bytesWE w).1 = true from decide_eq_true rfl] at t22
 clear hx hy hw hs hc fc hp h8 hg1 hg2
 generalize chunkW w X Y = q1 at *
 generalize atW w X Y = q2 at *
 generalize rightW w = q3 at *
 generalize putW w c = q4 at *
 generalize setW w p = q5 at *
 generalize playerW w p.id = q6 at *
 generalize bytesWE w = q7 at *
 generalize readW b = q8 at *
 obtain ⟨q1,r1⟩:=q1
 obtain ⟨q2,r2⟩:=q2
 obtain ⟨q4,r4⟩:=q4
 obtain ⟨q5,r5⟩:=q5
 obtain ⟨q6,r6⟩:=q6
 obtain ⟨q7,r7⟩:=q7
 obtain ⟨q8,r8⟩:=q8
 dsimp only at *
 refine Api.of_fin cfg_ok Tryz.func3 rfl (nt:=247) rfl rfl ?_
 ((repeat (first|(with_reducible refine evCut fun N hN hE hT=>?_)|(with_reducible refine evBlk fun N hN hE hT=>?_)));(try with_reducible refine evCnd fun X Y hX hY=>?_);(conv=>whnf))
 repeat' (first|exact trivial|((first|((first|refine hT _ _ ?_|refine hE _ _ _ ?_|refine hN _ _ ?_);clear hN hE hT)|((first|refine hX ?_|refine hY ?_);clear hX hY)|refine kL ?_|(refine ⟨fun hb=>?_,fun hb=>?_⟩<;>(try simp only [nrm] at hb)<;>(try (first|(exfalso;omega)|contradiction|exact kB hb)))|refine kA hgr ?_|refine kD hgr ?_|refine kA hgc ?_|refine kD hgc ?_|refine kA t1 ?_|refine kD t1 ?_|refine kA t2 ?_|refine kD t2 ?_|refine kA t3 ?_|refine kD t3 ?_|refine kA t4 ?_|refine kD t4 ?_|refine kA t5 ?_|refine kD t5 ?_|refine kA t6 ?_|refine kD t6 ?_|refine kA t7 ?_|refine kD t7 ?_|refine kA t8 ?_|refine kD t8 ?_|refine kA t9 ?_|refine kD t9 ?_|refine kA t10 ?_|refine kD t10 ?_|refine kA t11 ?_|refine kD t11 ?_|refine kA t12 ?_|refine kD t12 ?_|refine kA t13 ?_|refine kD t13 ?_|refine kA t14 ?_|refine kD t14 ?_|refine kA t15 ?_|refine kD t15 ?_|refine kA t16 ?_|refine kD t16 ?_|refine kA t17 ?_|refine kD t17 ?_|refine kA t18 ?_|refine kD t18 ?_|refine kA t19 ?_|refine kD t19 ?_|refine kA t20 ?_|refine kD t20 ?_|refine kA t21 ?_|refine kD t21 ?_|refine kA t22 ?_|refine kD t22 ?_|refine kA t23 ?_|refine kD t23 ?_|refine kA t24 ?_|refine kD t24 ?_|refine kA haw ?_|refine kD haw ?_|refine kW cfg_ok ?_|refine kC ?_|refine bdA ?_|refine bd2 ?_|refine bdR ?_|refine bdL ?_)<;>((repeat (first|(with_reducible refine evCut fun N hN hE hT=>?_)|(with_reducible refine evBlk fun N hN hE hT=>?_)));(try with_reducible refine evCnd fun X Y hX hY=>?_);(conv=>whnf)))|(refine And.intro ?_ ?_;rotate_left;(conv=>whnf);rotate_right))
 all_goals first|rfl|trace_state
theorem wtell_api (w : Wld) (X Y : Int) (c : Chunk) (p : Player) (b : List (El .u8)) (hx : X ≤ 9223372036854775807) (hy : Y ≤ 9223372036854775807) (hw : OkW w) (hs : 0 ≤ w.seed ∧ w.seed ≤ 18446744073709551615) (hc : OkC c) (fc : FitC c) (hp : OkP p) (h8 : okU8 b) : Api Tryz.prog 3 [wldV w,caseT X Y c p b] (bol true):=by
 by_cases hg : greatW w = true ∨ greatB c = true ∨ 300 < p.bag.length ∨ 300 < p.offer.length ∨ 20000 < b.length
 · exact wtellNo_api w X Y c p b hw hc hg
 · refine wtellY_api w X Y c p b hx hy hw hs hc fc hp h8 (by omega) ?_ ?_ (by omega) (by omega)
   · cases h : greatW w with
     | false=>rfl
     | true=>exact absurd (.inl h) hg
   · cases h : greatB c with
     | false=>rfl
     | true=>exact absurd (.inr (.inl h)) hg
end Go.Proofs.YtaecchphjploaaaGreat
