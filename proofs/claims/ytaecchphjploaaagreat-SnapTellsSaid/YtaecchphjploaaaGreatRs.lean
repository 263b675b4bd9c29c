/- homesteadlaw20.SnapTells. -/
import Derived.Test.YtaecchphjploaaaGreatHb
import Derived.Test.YtaecchphjploaaaGreatHc
import Derived.Test.YtaecchphjploaaaGreatGq
set_option linter.unusedSimpArgs false
set_option linter.unusedVariables false
set_option maxRecDepth 100000
set_option maxHeartbeats 16000000
namespace Go.Proofs.YtaecchphjploaaaGreat
open Go Go.RowKit Eng
theorem DO {v : Viw} {b : List Int} (h8 : au b) (hl : b.length ≤ 1000000000) : OkV (takeY v b).1:=by
 cases hB : baseB v with
 | false =>
  have e : takeY v b = (aE,113):=if_pos hB
  rw [e];exact jo
 | true =>
  have hk:=(Ep (v:=v) h8 hl hB).ok
  obtain ⟨_,w2,w3,w4,w5⟩:=wI v b
  by_cases h : makeB v (fD (tkN v b)) = true ∧ makeY v (fD (tkN v b)) = b
  ·rw [w5 hB h.1 h.2];exact hk
  ·rw [w4 hB h];exact jo
theorem v5 {v n : Viw} : au (makeE v n).1:=by
 unfold makeE
 cases h : makeB v n with
 | false=>intro i hi;cases hi
 | true =>
  unfold makeB at h
  rw [Bool.and_eq_true] at h
  exact kH h.2 h.1
theorem tT (v : Viw) (b : List (El .u8)) (hv : OkV v) (hB : baseB v = false) : Api Tryz.prog 42 [bk v,.vec .u8 b] (.tup [bk aE,i64 113]):=by
 have hr:=iI v hv
 have hno:=i7 v hv
 have hbase : baseB v = (nothingB v || aV v):=rfl
 rw [hB] at hbase
 have q1 : nothingB v = false ∧ aV v = false:=by simpa using hbase.symm
 rw [q1.1] at hno
 rw [q1.2] at hr
 refine aF Tryz.func42 140 ?_
 ((repeat (first|(with_reducible refine af fun N hN hE hT=>?_)|(with_reducible refine ah fun N hN hE hT=>?_)));(try with_reducible refine ai fun X Y hX hY=>?_);(conv=>whnf))
 repeat' (first|exact trivial|((first|((first|apply hT|apply hE|apply hN);clear hN hE hT)|((first|refine hX ?_|refine hY ?_);clear hX hY)|(refine ⟨fun hb=>?_,fun hb=>?_⟩<;>(try simp only [nrm] at hb)<;>try exact kZ hb)|refine kV ?_)<;>((repeat (first|(with_reducible refine af fun N hN hE hT=>?_)|(with_reducible refine ah fun N hN hE hT=>?_)));(try with_reducible refine ai fun X Y hX hY=>?_);(conv=>whnf)))|refine kY ?_ ?_)
 all_goals first|rfl|trace_state
theorem xe (v : Viw) (b : List (El .u8)) (hv : OkV v) (h8 : au b) (hl : b.length ≤ 1000000000) : Api Tryz.prog 42 [bk v,.vec .u8 b] (.tup [bk (takeY v b).1,i64 (takeY v b).2]):=by
 cases hB : baseB v with
 | true=>exact tU v b hv h8 hl hB (fun W hW=>pJ v W hv hW) _ rfl
 | false =>
  have e : takeY v b = (aE,113):=if_pos hB
  rw [e]
  exact tT v b hv hB
theorem xf (a n : Viw) (b : List (El .u8)) (ha : OkV a) (hn : OkV n) (hg : dL a = true ∨ dL n = true ∨ 20000 < b.length) : Api Tryz.prog 7 [bk a,bk n,.vec .u8 b] (bol true):=by
 have haw:=pC
 have h1:=jD a ha
 have h2:=jD n hn
 generalize dL a = g1 at *
 generalize dL n = g2 at *
 cases g1
 ·cases g2
  ·have hg : 20000 < b.length:=by simpa using hg
   refine aF Tryz.func7 69 ?_
   ((repeat (first|(with_reducible refine af fun N hN hE hT=>?_)|(with_reducible refine ah fun N hN hE hT=>?_)));(try with_reducible refine ai fun X Y hX hY=>?_);(conv=>whnf))
   repeat' (first|exact trivial|((first|((first|apply hT|apply hE|apply hN);clear hN hE hT)|((first|refine hX ?_|refine hY ?_);clear hX hY)|(refine ⟨fun hb=>?_,fun hb=>?_⟩<;>(try simp only [nrm] at hb)<;>try exact kZ hb)|refine kV ?_)<;>((repeat (first|(with_reducible refine af fun N hN hE hT=>?_)|(with_reducible refine ah fun N hN hE hT=>?_)));(try with_reducible refine ai fun X Y hX hY=>?_);(conv=>whnf)))|refine kY ?_ ?_)
  ·clear hg
   refine aF Tryz.func7 69 ?_
   ((repeat (first|(with_reducible refine af fun N hN hE hT=>?_)|(with_reducible refine ah fun N hN hE hT=>?_)));(try with_reducible refine ai fun X Y hX hY=>?_);(conv=>whnf))
   repeat' (first|exact trivial|((first|((first|apply hT|apply hE|apply hN);clear hN hE hT)|((first|refine hX ?_|refine hY ?_);clear hX hY)|(refine ⟨fun hb=>?_,fun hb=>?_⟩<;>(try simp only [nrm] at hb)<;>try exact kZ hb)|refine kV ?_)<;>((repeat (first|(with_reducible refine af fun N hN hE hT=>?_)|(with_reducible refine ah fun N hN hE hT=>?_)));(try with_reducible refine ai fun X Y hX hY=>?_);(conv=>whnf)))|refine kY ?_ ?_)
 ·clear hg
  refine aF Tryz.func7 69 ?_
  ((repeat (first|(with_reducible refine af fun N hN hE hT=>?_)|(with_reducible refine ah fun N hN hE hT=>?_)));(try with_reducible refine ai fun X Y hX hY=>?_);(conv=>whnf))
  repeat' (first|exact trivial|((first|((first|apply hT|apply hE|apply hN);clear hN hE hT)|((first|refine hX ?_|refine hY ?_);clear hX hY)|(refine ⟨fun hb=>?_,fun hb=>?_⟩<;>(try simp only [nrm] at hb)<;>try exact kZ hb)|refine kV ?_)<;>((repeat (first|(with_reducible refine af fun N hN hE hT=>?_)|(with_reducible refine ah fun N hN hE hT=>?_)));(try with_reducible refine ai fun X Y hX hY=>?_);(conv=>whnf)))|refine kY ?_ ?_)
theorem zV (a n : Viw) (b : List (El .u8)) (ha : OkV a) (hn : OkV n) (h8 : au b) (hl : b.length ≤ 20000) (hg1 : dL a = false) (hg2 : dL n = false) : Api Tryz.prog 7 [bk a,bk n,.vec .u8 b] (bol true):=by
 have haw:=pC
 have h1:=jD a ha
 have h2:=jD n hn
 rw [hg1] at h1
 rw [hg2] at h2
 have t1:=qk a n ha hn
 have t2:=pJ a n ha hn
 have t3 : Api Tryz.prog 38 [bk a,.vec .u8 b] (.tup [bk (takeY a b).1,i64 (takeY a b).2]):=mW (v:=a) (b:=b) ha h8 (by omega)
 have t4 : Api Tryz.prog 42 [bk a,.vec .u8 b] (.tup [bk (takeY a b).1,i64 (takeY a b).2]):=xe a b ha h8 (by omega)
 have t5:=BT (makeE a n).1 (makeE a n).1 v5 v5
 have t6:=qO (takeY a b).1 (takeY a b).1 (DO h8 (by omega))
 rw [d7] at t6
 rw [show eqL (makeE a n).1 (makeE a n).1 = true from decide_eq_true rfl] at t5
 clear ha hn h8 hg1 hg2
 generalize makeE a n = q1 at *
 generalize takeY a b = q2 at *
 obtain ⟨q1,r1⟩:=q1
 obtain ⟨q2,r2⟩:=q2
 dsimp only at *
 refine aF Tryz.func7 69 ?_
 ((repeat (first|(with_reducible refine af fun N hN hE hT=>?_)|(with_reducible refine ah fun N hN hE hT=>?_)));(try with_reducible refine ai fun X Y hX hY=>?_);(conv=>whnf))
 repeat' (first|exact trivial|((first|((first|apply hT|apply hE|apply hN);clear hN hE hT)|((first|refine hX ?_|refine hY ?_);clear hX hY)|(refine ⟨fun hb=>?_,fun hb=>?_⟩<;>(try simp only [nrm] at hb)<;>try exact kZ hb)|refine kV ?_)<;>((repeat (first|(with_reducible refine af fun N hN hE hT=>?_)|(with_reducible refine ah fun N hN hE hT=>?_)));(try with_reducible refine ai fun X Y hX hY=>?_);(conv=>whnf)))|refine kY ?_ ?_)
 all_goals first|rfl|trace_state
theorem BW (a n : Viw) (b : List (El .u8)) (ha : OkV a) (hn : OkV n) (h8 : au b) : Api Tryz.prog 7 [bk a,bk n,.vec .u8 b] (bol true):=by
 by_cases hg : dL a = true ∨ dL n = true ∨ 20000 < b.length
 ·exact xf a n b ha hn hg
 ·refine zV a n b ha hn h8 (by omega) ?_ ?_
  ·cases h : dL a with
   | false=>rfl
   | true=>exact absurd (.inl h) hg
  ·cases h : dL n with
   | false=>rfl
   | true=>exact absurd (.inr (.inl h)) hg
end Go.Proofs.YtaecchphjploaaaGreat
