/- homesteadlaw16: awake and seen. -/
import Derived.Test.YtkojlembanldcaaGreatGc
import Derived.Test.YtkojlembanldcaaGreatRows
import Derived.Test.YtkojlembanldcaaGreatGj
import Derived.Test.YtkojlembanldcaaGreatGi
import Derived.Test.YtkojlembanldcaaGreatGg
set_option linter.unusedSimpArgs false
set_option linter.unusedVariables false
set_option maxRecDepth 100000
set_option maxHeartbeats 16000000
namespace Go.Proofs.YtkojlembanldcaaGreat
open Go Go.RowKit Eng
theorem aT {a b : Bool} (h : a = true) (h2 : b = true) : (a && b) = true:=by rw [h,h2];rfl
theorem js_1 : (laidOutB Tryz.pinned.checked.prog) = true:=by kernel_rfl
theorem js_2 : (mapsRowed Tryz.pinned.checked.prog) = true:=by kernel_rfl
theorem js_22 : ((Rows.rulesComesRow.plainKeys == Tryz.pinned.checked.prog.plainKeys)) = true:=by kernel_rfl
theorem js_24 : (Tryz.pinned.checked.prog.stopsHeard) = true:=by kernel_rfl
theorem js_25 : (Tryz.pinned.checked.prog.mayEnter) = true:=by kernel_rfl
theorem js_26 : ((Rows.rulesComesRow.lifted == Tryz.pinned.checked.prog.liftsFinal)) = true:=by kernel_rfl
theorem js_27 : ((Tryz.pinned.checked.prog.make == some Rows.rulesComesRow.make)) = true:=by kernel_rfl
open Go Go.RowKit Eng
def wA0 : Wld:=⟨2,5,0,[],[]⟩
def pA1 : Player:=⟨1,10,0,newB8,-1,[],false⟩
def pA2 : Player:=⟨1,10,1,newB8,-1,[],false⟩
def wA1 : Wld:=⟨2,5,0,[],[pA1]⟩
def wA2 : Wld:=⟨2,5,0,[],[pA2]⟩
theorem rA1 : rightW wA1 = true:=by kernel_rfl
theorem rA2 : rightW wA2 = true:=by kernel_rfl
theorem rA0 : rightW wA0 = true:=by kernel_rfl
theorem chA1 : chunkW wA1 1 0 = (genC 5 1 0,true):=by
 unfold chunkW
 rw [if_neg (by rw [rA1];decide),if_neg (by decide)];rfl
theorem chA2 : chunkW wA2 1 0 = (genC 5 1 0,true):=by
 unfold chunkW
 rw [if_neg (by rw [rA2];decide),if_neg (by decide)];rfl
theorem genA : genC 5 1 0 = ⟨1,0,List.replicate 64 0,[],[]⟩:=by unfold genC;rw [gl_air 5 1 0 (by omega)]
theorem atA1 : atW wA1 10 1 = (0,true):=by
 unfold atW
 rw [if_neg (by decide),show (10 : Int) / 8 = 1 by decide,show (1 : Int) / 8 = 0 by decide,chA1,if_neg (by simp),genA]
 rfl
theorem apA1 : applyW wA0 1 ⟨1,0,0,0,0⟩ = (wA1,0):=by kernel_rfl
theorem plA1 : playerW wA1 1 = (pA1,true):=by kernel_rfl
theorem plA2 : playerW wA2 1 = (pA2,true):=by kernel_rfl
theorem apA2 : applyW wA1 1 ⟨2,0,1,0,0⟩ = (wA2,0):=by
 have hm : actA wA1 pA1 ⟨2,0,1,0,0⟩ = (wA2,0):=by
  show moveA wA1 pA1 ⟨2,0,1,0,0⟩ = (wA2,0)
  unfold moveA
  rw [show pA1.x + (⟨2,0,1,0,0⟩ : Cmd).a = 10 by rfl,show pA1.y + (⟨2,0,1,0,0⟩ : Cmd).b = 1 by rfl,if_neg (by decide),atA1,if_neg (by simp)]
  kernel_rfl
 unfold applyW
 rw [if_neg (by rw [rA1];simp),if_neg (by decide),plA1,if_neg (by decide),if_neg (by decide),hm,if_neg (by simp)]
theorem apA3 : applyW wA2 1 ⟨3,10,2,0,0⟩ = (wA2,107):=by
 have hm : actA wA2 pA2 ⟨3,10,2,0,0⟩ = (wA2,107):=by
  show breakA wA2 pA2 ⟨3,10,2,0,0⟩ = (wA2,107)
  unfold breakA
  rw [if_neg (not_not_intro (by decide : aimE wA2 pA2 10 2 = 0)),if_pos ?_]
  unfold placeC
  show elt .u8 (chunkW wA2 (10 / 8) (2 / 8)).1.cells _ = (0 : Int)
  rw [show (10 : Int) / 8 = 1 by decide,show (2 : Int) / 8 = 0 by decide,chA2,genA]
  rfl
 unfold applyW
 rw [if_neg (by rw [rA2];simp),if_neg (by decide),plA2,if_neg (by decide),if_neg (by decide),hm,if_pos (by simp)]
theorem apA4 : applyW wA2 1 ⟨10,0,0,0,0⟩ = (wA2,105):=by kernel_rfl
theorem okA0 : OkW wA0:=okW_rw (rightW_iff.1 rA0)
theorem okA1 : OkW wA1:=okW_rw (rightW_iff.1 rA1)
theorem okA2 : OkW wA2:=okW_rw (rightW_iff.1 rA2)
theorem awake16_api  : Api Tryz.prog 28 [] (bol true):=by
 have hn:=wnew_api 2 5
 rw [show newW 2 5 = (wA0,0) by rfl] at hn
 have h1:=apply_api wA0 1 ⟨1,0,0,0,0⟩ okA0 (by omega) (by decide)
 rw [apA1] at h1
 have h2:=apply_api wA1 1 ⟨2,0,1,0,0⟩ okA1 (by omega) (by decide)
 rw [apA2] at h2
 have h3:=apply_api wA2 1 ⟨3,10,2,0,0⟩ okA2 (by omega) (by decide)
 rw [apA3] at h3
 have h4:=apply_api wA2 1 ⟨10,0,0,0,0⟩ okA2 (by omega) (by decide)
 rw [apA4] at h4
 have p1:=wplayer_api wA1 1 okA1
 rw [plA1] at p1
 have p2:=wplayer_api wA2 1 okA2
 rw [plA2] at p2
 generalize hw0 : wA0 = A0 at *
 generalize hw1 : wA1 = A1 at *
 generalize hw2 : wA2 = A2 at *
 have x1 : pA1.x = 10 ∧ pA1.y = 0:=⟨rfl,rfl⟩
 have x2 : pA2.y = 1:=rfl
 generalize pA1 = P1 at *
 generalize pA2 = P2 at *
 dsimp only at hn h1 h2 h3 h4 p1 p2
 refine aF Tryz.func28 82 ?_
 exact fA0
end Go.Proofs.YtkojlembanldcaaGreat
