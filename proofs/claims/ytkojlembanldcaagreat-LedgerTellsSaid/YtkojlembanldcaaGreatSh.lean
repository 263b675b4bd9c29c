/- homesteadlaw18.LedgerTells. -/
import Derived.Test.YtkojlembanldcaaGreatSg
import Derived.Test.YtkojlembanldcaaGreatRr
set_option linter.unusedSimpArgs false
set_option linter.unusedVariables false
set_option maxRecDepth 100000
set_option maxHeartbeats 16000000
namespace Go.Proofs.YtkojlembanldcaaGreat
open Go Go.RowKit Eng
theorem Ks {P : Program} {fid : FuncId} {tt : Ty} {a b : List (El tt)} {n : Nat} {v : AV} (h : Api P fid [.vec tt a,.vec tt b] v) (hn : n = b.length) (hv : jZ v = true) : Ev1 P fid [.vec tt a,.own tt 1 0 n none] [(1,.row tt b)] v [(1,.row tt b)]:=by
 subst hn
 refine Api.lend h ?_ hv
 cases tt<;>(conv=>whnf)<;>exact ⟨by omega,by rw [List.drop_zero,List.take_length];rfl⟩
theorem Fc (w : Wld) (l : List (El .orders)) (hw : OkW w) (hL : OkL l) : Api Tryz.prog 17 [az w,.vec .orders l] (bol true):=by
 have haw:=AC
 have hgr:=DI w hw
 cases hg : mu w with
 | true =>
  rw [hg] at hgr
  refine aF Tryz.func17 42 ?_
  exact fD0
 | false =>
  rw [hg] at hgr
  have hcu:=I9 l hL.1 (fun b hb=>(hL.2 b hb).1)
  obtain ⟨hs1,hs2⟩:=Fe (l:=l) (fun b hb=>(hL.2 b hb).2)
  generalize gt l = T at *
  have e1:=DK w T hw (by omega) hs2
  have e2:=w8 w T hw (by omega) hs2
  have hFok : OkW (eL w T):=ql hw
  have hsc:=yR hFok
  have hsm:=DG (eL w T) hFok
  have c1:=oy w hw
  have c2:=se w hw
  have c3:=Ks (n:=13) (yR hw) (jP hw).1.symm rfl
  clear hs2 hg
  generalize eL w T = F at *
  generalize bY F = C at *
  generalize bY w = D at *
  refine aF Tryz.func17 42 ?_
  conv=>whnf
  repeat' (first|exact trivial|((first|refine kL ?_|(refine ⟨fun hb=>?_,fun hb=>?_⟩<;>(try simp only [nrm] at hb)<;>try exact kZ hb)|refine kE c2 [(390001,150001)] rfl ?_|refine kF c2 [(390001,150001)] rfl ?_|refine kE c3 [(1,150001)] rfl ?_|refine kF c3 [(1,150001)] rfl ?_|refine kV ?_)<;>(conv=>whnf))|refine kY ?_ ?_)
  all_goals first|rfl|omega|trace_state
end Go.Proofs.YtkojlembanldcaaGreat
