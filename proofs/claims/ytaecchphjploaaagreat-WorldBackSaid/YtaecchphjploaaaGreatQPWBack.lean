/- For every world and every case the call of homesteadlaw13.WorldBack returns true, and its arguments read as they did. No conditions. -/
import Derived.Test.YtaecchphjploaaaGreatGr
import Derived.Test.YtaecchphjploaaaGreatGu
import Derived.Test.YtaecchphjploaaaGreatGt
set_option linter.unusedSimpArgs false
set_option linter.unusedVariables false
namespace Go.Proofs.YtaecchphjploaaaGreat
open Go Go.RowKit Eng

set_option maxRecDepth 100000 in
theorem worldBack_lifted (os : Os) (started : os.Started) (H : Type) (enc : TypeId × Value → H) :
    ReturnsInHanded {} Tryz.checked os 4 .any (Rows.worldBackSpec.pre6 enc Tryz.prog Tryz.f4 Rows.worldBackRow.domain false) (Rows.worldBackSpec.post enc Tryz.prog Tryz.f4 false true false false) := by
  refine lifted_true (C := Tryz.checked) (boolT := 4) P_own started (by kernel_rfl) Tryz.func4 P_laid (of_decide_eq_true (by kernel_rfl)) rfl boolUn rfl ?_
    (ChangeSpec.witness6 (enc := enc) (C := Tryz.checked) false ⟨#[], #[.agg #[.int .i64 0, .int .u64 0, .int .i64 0, .slice none 0 0, .slice none 0 0], .agg #[.int .i64 0, .int .i64 0, .int .i64 0, .int .i64 0, .slice none 0 0, .slice none 0 0, .slice none 0 0, .int .i64 0, .int .i64 0, .int .i64 0, .slice none 0 0, .int .i64 0, .slice none 0 0, .bool false, .slice none 0 0]], []⟩ 8 (by kernel_rfl) (by kernel_rfl) (by kernel_rfl) (by kernel_rfl))
    (args_cons ag_world (args_cons ag_case (args_nil _))) ?_
  · intro ds hd
    match ds, hd with
    | [d1, d2], _ => rfl
  · rintro ⟨w, ⟨X, Y, c, p, b, _⟩, _⟩ ⟨hw, ⟨_, _, hc, hp, hb, _⟩, _⟩
    exact wback_api w X Y c p b hw.okW hw.seed hc.okC hc.fitC hp.okP hb.1

theorem worldBack_j0 : (Rows.worldBackRow.wf (OpenSpec.ofChange Rows.worldBackSpec)) = true := by kernel_rfl
theorem worldBack_j3 : (Tryz.f4.params.all (Tryz.pinned.checked.prog.readableRec ·)) = true := by kernel_rfl
theorem worldBack_j4 : (namedTie Tryz.pinned.checked.prog Rows.worldBackRow.named Rows.worldBackSpec.vars) = true := by kernel_rfl
theorem worldBack_j5 : ((Rows.worldBackRow.stops == [])) = true := by kernel_rfl
theorem worldBack_j6 : ((Tryz.pinned.checked.prog.stops == [])) = true := by kernel_rfl
theorem worldBack_j7 : ((Rows.worldBackRow.knobs == [])) = true := by kernel_rfl
theorem worldBack_j8 : ((Tryz.pinned.checked.prog.stopKnobs == [])) = true := by kernel_rfl
theorem worldBack_j9 : ((Rows.worldBackRow.inPlace == Tryz.pinned.checked.prog.inPlace 4)) = true := by kernel_rfl
theorem worldBack_j10 : ((Rows.worldBackRow.unfollowed == Tryz.pinned.checked.prog.unfollowed 4)) = true := by kernel_rfl
theorem worldBack_j11 : ((Rows.worldBackRow.recurses == Tryz.pinned.checked.prog.recurses 4)) = true := by kernel_rfl
theorem worldBack_j12 : ((Rows.worldBackRow.named == Tryz.pinned.checked.prog.varsNamed 4)) = true := by kernel_rfl
theorem worldBack_j13 : ((Rows.worldBackRow.maps == (Tryz.f4.params.toList ++ Rows.worldBackSpec.plain.varTypes Tryz.pinned.checked.prog).any (Tryz.pinned.checked.prog.mapsRec ·))) = true := by kernel_rfl
theorem worldBack_j14 : ((Rows.worldBackRow.ifaces == (Tryz.f4.params.toList ++ Rows.worldBackSpec.plain.varTypes Tryz.pinned.checked.prog).any (Tryz.pinned.checked.prog.ifacesRec ·))) = true := by kernel_rfl
theorem worldBack_j15 : ((Rows.worldBackRow.mapsOut == Tryz.pinned.checked.prog.mapsAmong Tryz.f4.resultTypes.toList)) = true := by kernel_rfl
theorem worldBack_j16 : ((Rows.worldBackRow.loops == (Tryz.f4.params.toList ++ Rows.worldBackSpec.plain.varTypes Tryz.pinned.checked.prog).any (Tryz.pinned.checked.prog.loopsFrom ·))) = true := by kernel_rfl
theorem worldBack_j17 : ((Rows.worldBackRow.wideKeys == (Tryz.f4.params.toList ++ Rows.worldBackSpec.plain.varTypes Tryz.pinned.checked.prog ++ Tryz.f4.resultTypes.toList).any (Tryz.pinned.checked.prog.wideKeysFrom ·))) = true := by kernel_rfl
theorem worldBack_j18 : (Rows.worldBackSpec.vars.all (Tryz.pinned.checked.prog.varReadable ·)) = true := by kernel_rfl
theorem worldBack_j19 : (Tryz.f4.resultTypes.all (fun t => Tryz.pinned.checked.prog.readableRec t && decide (t < Tryz.pinned.checked.prog.types.size))) = true := by kernel_rfl
theorem worldBack_j20 : ((Rows.worldBackRow.ifacesOut == Tryz.f4.resultTypes.toList.any (Tryz.pinned.checked.prog.ifacesRec ·))) = true := by kernel_rfl
theorem worldBack_j21 : ((Rows.worldBackRow.loopsOut == Tryz.f4.resultTypes.toList.any (Tryz.pinned.checked.prog.loopsFrom ·))) = true := by kernel_rfl
theorem worldBack_j23 : (Rows.worldBackRow.shortTexts.isNone) = true := by kernel_rfl
theorem worldBack_j28 : ((Rows.worldBackRow.kinds == (if Rows.worldBackRow.domain.isEmpty then [] else Tryz.f4.params.toList.map fun t => match Tryz.pinned.checked.prog.underlying t with | some (.int k) => some k | _ => none))) = true := by kernel_rfl
theorem worldBack_j29 : ((Rows.worldBackRow.pinned == Rows.worldBackRow.pinnedBy)) = true := by kernel_rfl
theorem worldBack_j30 : ((Rows.worldBackRow.veiled == (Tryz.f4.params.toList ++ Rows.worldBackSpec.plain.varTypes Tryz.pinned.checked.prog ++ Tryz.f4.resultTypes.toList).any (Tryz.pinned.checked.prog.veiledRec ·))) = true := by kernel_rfl
theorem worldBack_j31 : (Rows.worldBackRow.veiledFits Tryz.pinned.checked.prog Tryz.f4.params.toList (Tryz.f4.params.toList ++ Rows.worldBackSpec.plain.varTypes Tryz.pinned.checked.prog ++ Tryz.f4.resultTypes.toList)) = true := by kernel_rfl
set_option maxRecDepth 100000 in
theorem worldBack_closed : joinedFacts Tryz.pinned.checked.prog 4 Tryz.f4 Rows.worldBackSpec Rows.worldBackRow = true := by
  unfold joinedFacts
  exact aT (aT (aT (aT (aT (aT (aT (aT (aT (aT (aT (aT (aT (aT (aT (aT (aT (aT (aT (aT (aT (aT (aT (aT (aT (aT (aT (aT (aT (aT (aT (worldBack_j0) js_1) js_2) worldBack_j3) worldBack_j4) worldBack_j5) worldBack_j6) worldBack_j7) worldBack_j8) worldBack_j9) worldBack_j10) worldBack_j11) worldBack_j12) worldBack_j13) worldBack_j14) worldBack_j15) worldBack_j16) worldBack_j17) worldBack_j18) worldBack_j19) worldBack_j20) worldBack_j21) js_22) worldBack_j23) js_24) js_25) js_26) js_27) worldBack_j28) worldBack_j29) worldBack_j30) worldBack_j31
theorem worldBack_wrap : (Tryz.f4).isWrapper Tryz.pinned.checked.prog Rows.worldBackRow.wrapper Rows.worldBackRow.mainSum := by
  unfold Func.isWrapper; rw [if_neg (of_decide_eq_false (by kernel_rfl))]; exact ⟨rfl, rfl⟩
theorem worldBack_inst : (Tryz.f4).isInstance Tryz.pinned.checked.prog Rows.worldBackRow.origin Rows.worldBackRow.targs := of_decide_eq_true (by kernel_rfl)
theorem worldBack_fn : Tryz.pinned.checked.prog.funcNamed Rows.worldBackRow.func = some 4 := by kernel_rfl
theorem worldBack_holds : Rows.WorldBackSaid :=
  OpenClaim.holds_of_wide 4 Tryz.f4 rfl rfl rfl rfl rfl rfl rfl ⟨rfl, rfl, rfl, rfl, rfl⟩ rfl rfl rfl rfl rfl worldBack_fn Tryz.func4 worldBack_closed worldBack_inst worldBack_wrap
    (fun os started H enc _ => worldBack_lifted os started H enc)

end Go.Proofs.YtaecchphjploaaaGreat
