/- homesteadlaw18.awake, homesteadlaw18.LedgerBounds. -/
import Derived.Test.YtkojlembanldcaaGreatRb
import Derived.Test.YtkojlembanldcaaGreatGc
import Derived.Test.YtkojlembanldcaaGreatGe
set_option linter.unusedSimpArgs false
set_option linter.unusedVariables false
set_option maxRecDepth 100000
set_option maxHeartbeats 16000000
namespace Go.Proofs.YtkojlembanldcaaGreat
open Go Go.RowKit Eng
def wZ : Wld:=⟨1,0,0,[],[]⟩
def pZ : Player:=⟨1,0,0,(List.replicate 8 ⟨0,0⟩).set 0 ⟨1,3⟩,2,(List.replicate 8 ⟨0,0⟩).set 3 ⟨1,2⟩,false⟩
def wY : Wld:=⟨1,0,0,[],[pZ]⟩
theorem Ip : OkW wZ:=⟨by simp [wZ],by simp [wZ],by simp [wZ],by decide,by decide⟩
theorem Iq : OkP pZ:=⟨by unfold aQ;decide,by unfold aQ;decide,by decide,by decide⟩
theorem Lh : OkW wY:=⟨by simp [wY],by simp [wY],by simp [wY,Iq],by decide,by decide⟩
theorem LH : s9 1 0 = (wZ,0):=by rfl
theorem LI : am wZ pZ = (wY,0):=by kernel_rfl
theorem LJ : bY wZ = aq:=by kernel_rfl
theorem Kt : bY wY = [0,5,0,0,0,0,0,0,0,0,0,0,0]:=by kernel_rfl
theorem AC  : Api Tryz.prog 21 [] (bol true):=by
 have hn:=HV 1 0
 rw [LH] at hn
 have hc:=oy wZ Ip
 rw [LJ] at hc
 have hq:=pL aq (List.replicate (Int.toNat 13) (dO .i64)) (by decide)
 rw [show eqI aq (List.replicate (Int.toNat 13) (dO .i64)) = true by rfl] at hq
 have hRl : (List.replicate (Int.toNat 13) (dO .i64)).length = 13:=by decide
 have hL : (List.replicate (Int.toNat 8) (dO .slot)).length = 8:=by decide
 have hs:=f_ wZ pZ Ip Iq
 rw [LI] at hs
 have hd:=oy wY Lh
 have hd5 : elt .i64 (bY wY) 1 = (5 : Int):=by rw [Kt];rfl
 have hdl : (bY wY).length = 13:=by rw [Kt];rfl
 have e1 : aw pZ = .agg [i64 1,i64 0,i64 0,.vec .slot ((List.replicate (Int.toNat 8) (dO .slot)).set (Int.toNat 0 + 0) ⟨1,3⟩),i64 2,.vec .slot ((List.replicate (Int.toNat 8) (dO .slot)).set (Int.toNat 3 + 0) ⟨1,2⟩),bol false]:=rfl
 rw [e1] at hs
 generalize aq = Z13 at *
 generalize wZ = A at *
 generalize wY = B at *
 generalize bY B = C at *
 dsimp only at hn hs
 generalize hZ : List.replicate (Int.toNat 13) (dO Ty.i64) = R at *
 generalize hLL : List.replicate (Int.toNat 8) (dO Ty.slot) = L at *
 replace hs:=ml hs (.cons (Le.refl _) (.cons (Le.agg (.cons (Le.refl _) (.cons (Le.refl _) (.cons (Le.refl _) (.cons (Le.refl _) (.cons (Le.refl _) (.cons (Le.refl _) (.cons (Le.ff rfl) .nil)))))))) .nil))
 refine aF Tryz.func21 44 ?_
 ((try with_reducible refine ab fun N hN hE hT=>?_);(conv=>whnf))
 repeat' (first|exact trivial|((first|((first|apply hT|apply hE|apply hN);clear hN hE hT)|refine kL ?_|(refine ⟨fun hb=>?_,fun hb=>?_⟩<;>(try simp only [nrm] at hb)<;>try exact kZ hb)|((rw [hLL];refine ⟨by omega,by omega,?_⟩))|((rw [hLL]))|((rw [hZ];refine tk hq rfl rfl ?_;(conv=>whnf);refine ⟨by omega,by rw [List.drop_zero,List.take_of_length_le (by omega)],?_⟩))|refine kV ?_)<;>((try with_reducible refine ab fun N hN hE hT=>?_);(conv=>whnf)))|refine kY ?_ ?_)
 refine Er hs rfl rfl ?_
 conv=>whnf
 refine ⟨by rw [List.length_set];omega,?_⟩
 conv=>whnf
 refine ⟨by rw [List.length_set];omega,?_⟩
 conv=>whnf
 refine ⟨by rw [List.drop_zero,List.drop_zero,List.take_of_length_le (by rw [List.length_set];omega),List.take_of_length_le (by rw [List.length_set];omega)];rfl,?_⟩
 repeat' (first|exact trivial|((first|((first|apply hT|apply hE|apply hN);clear hN hE hT)|(refine ⟨fun hb=>?_,fun hb=>?_⟩<;>(try simp only [nrm] at hb)<;>try exact kZ hb)|refine kV ?_)<;>((try with_reducible refine ab fun N hN hE hT=>?_);(conv=>whnf)))|refine kY ?_ ?_)
 all_goals first|rfl|omega|(refine congrArg Value.bool ?_;rw [show Int.toNat 1 = 1 from rfl,hd5];rfl)|trace_state
end Go.Proofs.YtkojlembanldcaaGreat
