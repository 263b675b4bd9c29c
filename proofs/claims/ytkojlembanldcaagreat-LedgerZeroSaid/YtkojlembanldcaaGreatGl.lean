/- homesteadlaw18.awake, homesteadlaw18.LedgerBounds. -/
import Derived.Test.YtkojlembanldcaaGreatRb
import Derived.Test.YtkojlembanldcaaGreatGc
import Derived.Test.YtkojlembanldcaaGreatGe
set_option linter.unusedSimpArgs false
set_option linter.unusedVariables false
set_option maxRecDepth 100000
set_option maxHeartbeats 4000000
namespace Go.Proofs.YtkojlembanldcaaGreat
open Go Go.RowKit Eng
def wZ : Wld:=⟨1,0,0,[],[]⟩
def pZ : Player:=⟨1,0,0,(List.replicate 8 ⟨0,0⟩).set 0 ⟨1,3⟩,2,(List.replicate 8 ⟨0,0⟩).set 3 ⟨1,2⟩,false⟩
def wY : Wld:=⟨1,0,0,[],[pZ]⟩
theorem okW_Z : OkW wZ:=⟨by simp [wZ],by simp [wZ],by simp [wZ],by decide,by decide⟩
theorem okP_Z : OkP pZ:=⟨by unfold okSlot;decide,by unfold okSlot;decide,by decide,by decide⟩
theorem okW_Y : OkW wY:=⟨by simp [wY],by simp [wY],by simp [wY,okP_Z],by decide,by decide⟩
theorem newZ : newW 1 0 = (wZ,0):=by rfl
theorem setZ : setW wZ pZ = (wY,0):=by kernel_rfl
theorem cntZ : cntW wZ = zeros13:=by kernel_rfl
theorem cntY : cntW wY = [0,5,0,0,0,0,0,0,0,0,0,0,0]:=by kernel_rfl
theorem awake18_api  : Api Tryz.prog 21 [] (bol true):=by
 have hn:=wnew_api 1 0
 rw [newZ] at hn
 have hc:=lcount_api wZ okW_Z
 rw [cntZ] at hc
 have hq:=sameInts_api zeros13 (List.replicate (Int.toNat 13) (dflt .i64)) (by decide)
 rw [show eqI zeros13 (List.replicate (Int.toNat 13) (dflt .i64)) = true by rfl] at hq
 have hRl : (List.replicate (Int.toNat 13) (dflt .i64)).length = 13:=by decide
 have hL : (List.replicate (Int.toNat 8) (dflt .slot)).length = 8:=by decide
 have hs:=set_world wZ pZ okW_Z okP_Z
 rw [setZ] at hs
 have hd:=lcount_api wY okW_Y
 have hd5 : elt .i64 (cntW wY) 1 = (5 : Int):=by rw [cntY];rfl
 have hdl : (cntW wY).length = 13:=by rw [cntY];rfl
 have e1 : playerV pZ = .agg [i64 1,i64 0,i64 0,.vec .slot ((List.replicate (Int.toNat 8) (dflt .slot)).set (Int.toNat 0 + 0) ⟨1,3⟩),i64 2,.vec .slot ((List.replicate (Int.toNat 8) (dflt .slot)).set (Int.toNat 3 + 0) ⟨1,2⟩),bol false]:=rfl
 rw [e1] at hs
 generalize zeros13 = Z13 at *
 generalize wZ = A at *
 generalize wY = B at *
 generalize cntW B = C at *
 dsimp only at hn hs
 generalize hZ : List.replicate (Int.toNat 13) (dflt Ty.i64) = R at *
 generalize hLL : List.replicate (Int.toNat 8) (dflt Ty.slot) = L at *
 replace hs:=api_weak hs (.cons (Le.refl _) (.cons (Le.agg (.cons (Le.refl _) (.cons (Le.refl _) (.cons (Le.refl _) (.cons (Le.refl _) (.cons (Le.refl _) (.cons (Le.refl _) (.cons (Le.ff rfl) .nil)))))))) .nil))
 refine Api.of_fin cfg_ok Tryz.func21 rfl (nt:=44) rfl rfl ?_
 ((try with_reducible refine evCut fun N hN hE hT=>?_);(conv=>whnf))
 repeat' (first|exact trivial|((first|((first|refine hT _ _ ?_|refine hE _ _ _ ?_|refine hN _ _ ?_);clear hN hE hT)|refine kL ?_|(refine ⟨fun hb=>?_,fun hb=>?_⟩<;>(try simp only [nrm] at hb)<;>(try (first|(exfalso;omega)|contradiction|exact kB hb)))|((rw [hLL];refine ⟨by omega,by omega,?_⟩))|((rw [hLL]))|((rw [hZ];refine callGiveND hq rfl rfl ?_;(conv=>whnf);refine ⟨by omega,by rw [List.drop_zero,List.take_of_length_le (by omega)],?_⟩))|refine kA hn ?_|refine kD hn ?_|refine kA hc ?_|refine kD hc ?_|refine kA hd ?_|refine kD hd ?_|refine kW cfg_ok ?_|refine kC ?_|refine bdA ?_|refine bd2 ?_|refine bdR ?_|refine bdL ?_)<;>((try with_reducible refine evCut fun N hN hE hT=>?_);(conv=>whnf)))|(refine And.intro ?_ ?_;rotate_left;(conv=>whnf);rotate_right))
 refine callGiveN hs rfl rfl ?_
 conv=>whnf
 refine ⟨by rw [List.length_set];omega,?_⟩
 conv=>whnf
 refine ⟨by rw [List.length_set];omega,?_⟩
 conv=>whnf
 refine ⟨by rw [List.drop_zero,List.drop_zero,List.take_of_length_le (by rw [List.length_set];omega),List.take_of_length_le (by rw [List.length_set];omega)];rfl,?_⟩
 repeat' (first|exact trivial|((first|((first|refine hT _ _ ?_|refine hE _ _ _ ?_|refine hN _ _ ?_);clear hN hE hT)|refine kL ?_|(refine ⟨fun hb=>?_,fun hb=>?_⟩<;>(try simp only [nrm] at hb)<;>(try (first|(exfalso;omega)|contradiction|exact kB hb)))|refine kA hd ?_|refine kD hd ?_|refine kW cfg_ok ?_|refine kC ?_|refine bdA ?_|refine bd2 ?_|refine bdR ?_|refine bdL ?_)<;>((try with_reducible refine evCut fun N hN hE hT=>?_);(conv=>whnf)))|(refine And.intro ?_ ?_;rotate_left;(conv=>whnf);rotate_right))
 all_goals first|rfl|omega|(refine congrArg Value.bool ?_;rw [show Int.toNat 1 = 1 from rfl,hd5];rfl)|trace_state
end Go.Proofs.YtkojlembanldcaaGreat
