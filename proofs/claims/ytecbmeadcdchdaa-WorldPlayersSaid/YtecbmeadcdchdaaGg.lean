/- Contracts of the law packages 11 and 13. -/
import Derived.Test.YtecbmeadcdchdaaGf
import Derived.Test.YtecbmeadcdchdaaGc
import Derived.Test.YtecbmeadcdchdaaGe
set_option linter.unusedSimpArgs false
set_option linter.unusedVariables false
set_option maxRecDepth 100000
set_option maxHeartbeats 16000000
namespace Go.Proofs.Ytecbmeadcdchdaa
open Go Go.RowKit Eng
open Go Go.RowKit Eng
open Go Go.RowKit Eng
theorem gl_air (seed x y : Int) (hy : y ≤ 3) : gl seed x y 64 = List.replicate 64 0:=by
 unfold gl
 refine List.ext_getElem (by simp) fun i h1 h2=>?_
 simp only [List.length_map,List.length_range] at h1
 simp only [List.getElem_map,List.getElem_range,List.getElem_replicate]
 have hh:=heightI_bd seed (x * 8 + (i % 8 : Nat))
 unfold cellI
 simp only []
 generalize heightI seed (x * 8 + (i % 8 : Nat)) = H at *
 rw [if_neg (by omega),if_neg (by omega),if_pos (by omega)]
theorem genchunk_own (seed x y : Int) (hx : 0 ≤ x) (hx2 : x ≤ 15) (hy : 0 ≤ y) (hy2 : y ≤ 15) : Ev1 Try.prog 28 [.lit (.int .u64 seed),i64 x,i64 y] [] (.agg [i64 x,i64 y,.own .u8 390001 0 64 none,.lit (.slice none 0 0),.lit (.slice none 0 0)]) [(390001,.row .u8 (gl seed x y 64))]:=by
 refine Ev1.of_fin cfg_ok Try.func28 rfl (nt:=24) rfl rfl rfl ?_
 conv=>whnf
 repeat' (first|exact trivial|((first|refine kL ?_|(refine ⟨fun hb=>?_,fun hb=>?_⟩<;>(try simp only [nrm] at hb)<;>(try (first|(exfalso;omega)|contradiction|exact kB hb)))|(refine isE 49 ?_;refine kE (each_ev seed x y x y hx hx2 hy hy2) [(0,200014),(2,200006),(390001,350001)] rfl ?_)|(refine isD 49 ?_;refine kF (each_ev seed x y x y hx hx2 hy hy2) [(0,200014),(2,200006),(390001,350001)] rfl ?_)|refine kW cfg_ok ?_|refine kC ?_|refine bdA ?_|refine bd2 ?_|refine bdR ?_|refine bdL ?_)<;>(conv=>whnf))|(refine And.intro ?_ ?_;rotate_left;(conv=>whnf);rotate_right))
 all_goals first|omega|(rw [gl_len];omega)|(rw [gl_len];exact Nat.le_refl _)|(refine gl_take _ _ _ _ _ ?_;omega)|trace_state
def w2 : Wld:=⟨2,7,0,[],[]⟩
def airC : Chunk:=⟨1,1,List.replicate 64 0,[],[]⟩
def rockC : Chunk:=⟨1,1,(List.replicate 64 0).set 9 2,[],[]⟩
def w2r : Wld:=⟨2,7,0,[rockC],[]⟩
theorem rightB_air : rightB airC = true:=by decide
theorem rightB_rock : rightB rockC = true:=by decide
theorem plain_air : plainW 7 airC = true:=by
 unfold plainW eqI
 rw [show gl 7 airC.x airC.y 64 = airC.cells from gl_air 7 1 1 (by omega)]
 decide
theorem plain_rock : plainW 7 rockC = false:=by
 unfold plainW eqI
 rw [show gl 7 rockC.x rockC.y 64 = airC.cells from gl_air 7 1 1 (by omega)]
 decide
theorem rw_w2 : RW w2:=⟨by decide,by simp [w2],by simp [w2,risesK],by simp [w2,risesK],by simp [w2]⟩
theorem put_rock : putW w2 rockC = (w2r,0):=by
 rw [put_eq rw_w2 rightB_rock (by decide)]
 unfold putL
 rw [show w2.seed = 7 from rfl,if_neg (by rw [plain_rock];simp)]
 rfl
theorem rw_w2r : RW w2r:=by
 have:=rw_put (w:=w2) rw_w2 rightB_rock (by decide)
 unfold putL at this
 rw [show w2.seed = 7 from rfl,if_neg (by rw [plain_rock];simp)] at this
 exact this
theorem put_back : putW w2r airC = (w2,0):=by
 rw [put_eq rw_w2r rightB_air (by decide)]
 unfold putL
 rw [show w2r.seed = 7 from rfl,if_pos plain_air]
 rfl
theorem at_air : atW w2 0 15 = (0,true):=by
 have hR:=rightW_iff.2 rw_w2
 have hc : chunkW w2 (0 / 8) (15 / 8) = (genC 7 0 1,true):=by
   unfold chunkW
   rw [if_neg (by rw [hR];decide),if_neg (by decide)];rfl
 unfold atW
 rw [if_neg (by decide),hc,if_neg (by simp)]
 unfold genC
 rw [gl_air 7 0 1 (by omega)];rfl
theorem at_out : atW w2 16 0 = (0,false):=by
 unfold atW
 rw [if_pos (by decide)]
theorem at_rock : atW w2r 9 9 = (2,true):=by
 have hR:=rightW_iff.2 rw_w2r
 have hB:=bsC_rises rw_w2r.rc rw_w2r.xy (x:=1) (y:=1) (by omega) (by omega)
 have hc : chunkW w2r (9 / 8) (9 / 8) = (rockC,true):=by
   unfold chunkW
   rw [show (9 : Int) / 8 = 1 by decide,if_neg (by rw [hR];decide),hB.1,hB.2,if_pos (by decide)];rfl
 unfold atW
 rw [if_neg (by decide),hc,if_neg (by simp)];rfl
theorem okC_air : OkC airC:=⟨by decide,by simp [airC],by simp [airC],by decide,by decide,by decide⟩
theorem okC_rock : OkC rockC:=⟨by decide,by simp [rockC],by simp [rockC],by decide,by decide,by decide⟩
theorem fitC_air : FitC airC:=⟨by decide,by decide,by decide,by simp [airC]⟩
theorem fitC_rock : FitC rockC:=⟨by decide,by decide,by decide,by simp [rockC]⟩
theorem okW_w2 : OkW w2:=⟨by simp [w2],by simp [w2],by simp [w2],by decide,by decide⟩
theorem okW_w2r : OkW w2r:=⟨by simp [w2r,okC_rock],by simp [w2r,fitC_rock],by simp [w2r],by decide,by decide⟩
theorem awake13_api  : Api Try.prog 10 [] (bol true):=by
 have hn:=wnew_api 2 7
 rw [show newW 2 7 = (w2,0) by rfl] at hn
 have ha:=at_api w2 0 15 okW_w2 (by omega) (by omega)
 rw [at_air] at ha
 have ho:=at_api w2 16 0 okW_w2 (by omega) (by omega)
 rw [at_out] at ho
 have hg:=genchunk_own 7 1 1 (by omega) (by omega) (by omega) (by omega)
 rw [gl_air 7 1 1 (by omega)] at hg
 have hp:=worldPut_api w2 rockC okW_w2 okC_rock fitC_rock
 rw [put_rock] at hp
 have hr:=at_api w2r 9 9 okW_w2r (by omega) (by omega)
 rw [at_rock] at hr
 have hp2:=worldPut_api w2r airC okW_w2r okC_air fitC_air
 rw [put_back] at hp2
 have e1 : chunkV rockC = .agg [i64 1,i64 1,.vec .u8 ((List.replicate 64 0).set 9 2),.vec .heap [],.vec .box []]:=rfl
 have e2 : chunkV airC = .agg [i64 1,i64 1,.vec .u8 (List.replicate 64 0),.vec .heap [],.vec .box []]:=rfl
 rw [e1] at hp
 rw [e2] at hp2
 have hl : w2r.chunks.length = 1:=rfl
 have hl2 : w2.chunks.length = 0:=rfl
 have hL : (List.replicate 64 (0 : Int)).length = 64:=by simp
 generalize hw2 : w2 = A at *
 generalize hw2r : w2r = B at *
 generalize hLL : List.replicate 64 (0 : Int) = L at *
 dsimp only at hn ha ho hp hr hp2
 obtain ⟨n,hn64⟩ : ∃ n : Nat,n = 64:=⟨_,rfl⟩
 rw [← hn64] at hg hL
 replace hp:=api_weak hp (.cons (Le.refl _) (.cons (le_chunk _ _ _) .nil))
 replace hp2:=api_weak hp2 (.cons (Le.refl _) (.cons (le_chunk _ _ _) .nil))
 refine Api.of_fin cfg_ok Try.func10 rfl (nt:=93) rfl rfl ?_
 conv=>whnf
 generalize hq : (9 : Int) = q at *
 repeat' (first|exact trivial|((first|refine kL ?_|(refine ⟨fun hb=>?_,fun hb=>?_⟩<;>(try simp only [nrm] at hb)<;>(try (first|(exfalso;omega)|contradiction|exact kB hb)))|refine kE hg [(390001,150001)] rfl ?_|refine kF hg [(390001,150001)] rfl ?_|((refine ⟨(by omega : 0 ≤ q ∧ q < (n : Int)),?_⟩;show opsK _ _ _ _ _ _ _ _;unfold opsK;unfold guardK;show stepK _ _ _ _ _ _ _;unfold stepK;show opA _ _ _ _ _ _ _;unfold opA;show avalK _ _ _))|refine kA hn ?_|refine kD hn ?_|refine kA ha ?_|refine kD ha ?_|refine kA ho ?_|refine kD ho ?_|refine kW cfg_ok ?_|refine kC ?_|refine bdA ?_|refine bd2 ?_|refine bdR ?_|refine bdL ?_)<;>(conv=>whnf))|(refine And.intro ?_ ?_;rotate_left;(conv=>whnf);rotate_right))
 refine callGiveN hp rfl rfl ?_
 conv=>whnf
 refine ⟨by rw [List.length_set];omega,?_,?_⟩
 · rw [List.drop_zero,List.take_of_length_le (by rw [List.length_set];omega)];subst hq;rfl
 conv=>whnf
 repeat' (first|exact trivial|((first|refine kL ?_|(refine ⟨fun hb=>?_,fun hb=>?_⟩<;>(try simp only [nrm] at hb)<;>(try (first|(exfalso;omega)|contradiction|exact kB hb)))|refine kE hg [(390001,150003)] rfl ?_|refine kF hg [(390001,150003)] rfl ?_|refine kA hr ?_|refine kD hr ?_|refine kW cfg_ok ?_|refine kC ?_|refine bdA ?_|refine bd2 ?_|refine bdR ?_|refine bdL ?_)<;>(conv=>whnf))|(refine And.intro ?_ ?_;rotate_left;(conv=>whnf);rotate_right))
 refine callGiveND hp2 rfl rfl ?_
 conv=>whnf
 refine ⟨by omega,?_,?_⟩
 · rw [List.drop_zero,List.take_of_length_le (by omega)]
 conv=>whnf
 repeat' (first|exact trivial|((first|refine kL ?_|(refine ⟨fun hb=>?_,fun hb=>?_⟩<;>(try simp only [nrm] at hb)<;>(try (first|(exfalso;omega)|contradiction|exact kB hb)))|refine kW cfg_ok ?_|refine kC ?_|refine bdA ?_|refine bd2 ?_|refine bdR ?_|refine bdL ?_)<;>(conv=>whnf))|(refine And.intro ?_ ?_;rotate_left;(conv=>whnf);rotate_right))
 all_goals first|omega|(rw [hl];done)|(refine congrArg Value.bool ?_;rw [hl2];rfl)|trace_state
open Go Go.RowKit Eng
theorem within_iff {w : Wld} (hR : RW w) {x y : Int} : withinW w.size x y = true ↔ 0 ≤ x ∧ 0 ≤ y ∧ x < 8 * w.size ∧ y < 8 * w.size:=by
 have hs:=hR.size
 unfold withinW
 rw [wr8_eq (by omega) (by omega)]
 simp only [Bool.and_eq_true,decide_eq_true_eq]
 omega
end Go.Proofs.Ytecbmeadcdchdaa
