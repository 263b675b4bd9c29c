/- homesteadlaw16.RulesTell. -/
import Derived.Test.YtkojlembanldcaaGreatSc
import Derived.Test.YtkojlembanldcaaGreatRi
set_option linter.unusedSimpArgs false
set_option linter.unusedVariables false
set_option maxRecDepth 100000
set_option maxHeartbeats 16000000
namespace Go.Proofs.YtkojlembanldcaaGreat
open Go Go.RowKit Eng
theorem okW_apply {w : Wld} {id : Int} {c : Cmd} (hw : OkW w) : OkW (applyW w id c).1:=by
 cases hR : rightW w with
 | true=>exact okW_rw (apply_rw hR)
 | false =>
  have e : applyW w id c = (w,113):=by unfold applyW;rw [if_pos hR]
  rw [e];exact hw
theorem rtell_api (w : Wld) (l : List (El .doo)) (hw : OkW w) (hl : l.length * 48 ≤ 140737488351232) (hok : ∀ o ∈ l,o.id ≤ 9223372036854775807 ∧ 0 ≤ o.cmd.dol ∧ o.cmd.dol ≤ 255) : Api Tryz.prog 8 [wldV w,.vec .doo l] (bol true):=by
 have hgr:=greatW_api w hw
 have haw:=awake16_api
 cases hG : greatW w with
 | true =>
  rw [hG] at hgr
  refine aF Tryz.func8 143 ?_
  exact fA0
 | false =>
  rw [hG] at hgr
  refine aF Tryz.func8 143 ?_
  ((try with_reducible refine evCut fun N hN hE hT=>?_);(conv=>whnf))
  repeat' (first|exact trivial|((first|((first|apply hT|apply hE|apply hN);clear hN hE hT)|(refine ⟨fun hb=>?_,fun hb=>?_⟩<;>(try simp only [nrm] at hb)<;>try exact kZ hb)|refine kV ?_)<;>((try with_reducible refine evCut fun N hN hE hT=>?_);(conv=>whnf)))|refine kY ?_ ?_)
  refine Runs.loopS cfg_ok (σ:=Nat × Wld) [1,2,5] (fun (i,_)=>[.vec .doo l,.ptr 4 0,i64 i]) (fun (_,v)=>[(4,.box (wldC v))]) (fun (i,v)=>i ≤ 25 ∧ OkW v) (fun (i,_)=>25 - i) (0,w) ⟨by omega,hw⟩ ?_ ?_
  ·exact fB0
  ·rintro ⟨i,v⟩ ⟨hi,hv⟩
   try dsimp only at hi hv
   by_cases hlt : i < l.length ∧ i < 25
   ·obtain ⟨h1,h2⟩:=hlt
    obtain ⟨o1,o2,o3⟩:=hok _ (elt_mem (t:=.doo) h1)
    have hcp:=r13copied_api v hv
    have a1:=apply_api v (elt .doo l i).id (elt .doo l i).cmd hv o1 ⟨o2,o3⟩
    have a2:=r16apply_api v (elt .doo l i).id (elt .doo l i).cmd hv o1 ⟨o2,o3⟩
    have d1:=deltas_api v (elt .doo l i).id (elt .doo l i).cmd hv o1 ⟨o2,o3⟩
    have d2:=d16_api v (elt .doo l i).id (elt .doo l i).cmd hv o1 ⟨o2,o3⟩
    have si:=sameInts_api (deltasW v (elt .doo l i).id (elt .doo l i).cmd) (deltasW v (elt .doo l i).id (elt .doo l i).cmd) (by rw [deltas_len];decide)
    rw [show eqI (deltasW v (elt .doo l i).id (elt .doo l i).cmd) (deltasW v (elt .doo l i).id (elt .doo l i).cmd) = true from decide_eq_true rfl] at si
    have p1:=spawn_api v.size (elt .doo l i).id o1
    have p2:=r16spawn_api v.size (elt .doo l i).id o1
    have hA:=okW_apply (id:=(elt .doo l i).id) (c:=(elt .doo l i).cmd) hv
    have s1:=sameW_self _ hA
    have s2:=sameW_self v hv
    have hE:=fun he=>apply_err (w:=v) (id:=(elt .doo l i).id) (c:=(elt .doo l i).cmd) he
    generalize deltasW v (elt .doo l i).id (elt .doo l i).cmd = D at *
    generalize applyW v (elt .doo l i).id (elt .doo l i).cmd = R at *
    generalize spawnX v.size (elt .doo l i).id = X at *
    obtain ⟨R1,R2⟩:=R
    dsimp only at *
    by_cases h0 : R2 = 0
    ·subst h0
     conv=>whnf
     repeat' (first|exact trivial|((first|((first|apply hT|apply hE|apply hN);clear hN hE hT)|(refine ⟨fun hb=>?_,fun hb=>?_⟩<;>(try simp only [nrm] at hb)<;>try exact kZ hb)|refine kV ?_)<;>((try with_reducible refine evCut fun N hN hE hT=>?_);(conv=>whnf)))|refine kY ?_ ?_)
     all_goals
      refine .to (i + 1,R1) ⟨by first|omega|(dsimp only;omega),hA⟩ (by first|omega|(dsimp only;omega)) ?_
      exact fB0
    ·obtain rfl : R1 = v:=hE h0
     conv=>whnf
     repeat' (first|exact trivial|((first|((first|apply hT|apply hE|apply hN);clear hN hE hT)|(refine ⟨fun hb=>?_,fun hb=>?_⟩<;>(try simp only [nrm] at hb)<;>try exact kZ hb)|refine kV ?_)<;>((try with_reducible refine evCut fun N hN hE hT=>?_);(conv=>whnf)))|refine kY ?_ ?_)
     all_goals
      refine .to (i + 1,R1) ⟨by first|omega|(dsimp only;omega),hv⟩ (by first|omega|(dsimp only;omega)) ?_
      exact fB0
   ·have : (l.length : Int) ≤ i ∨ i = 25:=by omega
    exact fB0
end Go.Proofs.YtkojlembanldcaaGreat
