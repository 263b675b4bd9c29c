/- For every world and every case the call of homesteadlaw13.WorldTells returns true, and its arguments read as they did. No conditions. -/
import Derived.Test.YtaecchphjploaaaGreatRs
import Derived.Test.YtaecchphjploaaaGreatGu
import Derived.Test.YtaecchphjploaaaGreatGt
set_option linter.unusedSimpArgs false
set_option linter.unusedVariables false
namespace Go.Proofs.YtaecchphjploaaaGreat
open Go Go.RowKit Eng

set_option maxRecDepth 100000 in
theorem worldTells_lifted (os : Os) (started : os.Started) (H : Type) (enc : TypeId × Value → H) :
    ReturnsInHanded {} Tryz.checked os 3 .any (Rows.worldTellsSpec.pre6 enc Tryz.prog Tryz.f3 Rows.worldTellsRow.domain false) (Rows.worldTellsSpec.post enc Tryz.prog Tryz.f3 false true false false) := by
  refine lifted_true (C := Tryz.checked) (boolT := 4) P_own started (by kernel_rfl) Tryz.func3 P_laid (of_decide_eq_true (by kernel_rfl)) rfl boolUn rfl ?_
    (ChangeSpec.witness6 (enc := enc) (C := Tryz.checked) false ⟨#[], #[.agg #[.int .i64 0, .int .u64 0, .int .i64 0, .slice none 0 0, .slice none 0 0], .agg #[.int .i64 0, .int .i64 0, .int .i64 0, .int .i64 0, .slice none 0 0, .slice none 0 0, .slice none 0 0, .int .i64 0, .int .i64 0, .int .i64 0, .slice none 0 0, .int .i64 0, .slice none 0 0, .bool false, .slice none 0 0]], []⟩ 8 (by kernel_rfl) (by kernel_rfl) (by kernel_rfl) (by kernel_rfl))
    (args_cons ag_world (args_cons ag_case (args_nil _))) ?_
  · intro ds hd
    match ds, hd with
    | [d1, d2], _ => rfl
  · rintro ⟨w, ⟨X, Y, c, p, b, _⟩, _⟩ ⟨hw, ⟨hX, hY, hc, hp, hb, _⟩, _⟩
    exact wtell_api w X Y c p b hX.2 hY.2 hw.okW hw.seed hc.okC hc.fitC hp.okP hb.1

theorem worldTells_j0 : (Rows.worldTellsRow.wf (OpenSpec.ofChange Rows.worldTellsSpec)) = true := by kernel_rfl
theorem worldTells_j3 : (Tryz.f3.params.all (Tryz.pinned.checked.prog.readableRec ·)) = true := by kernel_rfl
theorem worldTells_j4 : (namedTie Tryz.pinned.checked.prog Rows.worldTellsRow.named Rows.worldTellsSpec.vars) = true := by kernel_rfl
theorem worldTells_j5 : ((Rows.worldTellsRow.stops == [])) = true := by kernel_rfl
theorem worldTells_j6 : ((Tryz.pinned.checked.prog.stops == [])) = true := by kernel_rfl
theorem worldTells_j7 : ((Rows.worldTellsRow.knobs == [])) = true := by kernel_rfl
theorem worldTells_j8 : ((Tryz.pinned.checked.prog.stopKnobs == [])) = true := by kernel_rfl
theorem worldTells_j9 : ((Rows.worldTellsRow.inPlace == Tryz.pinned.checked.prog.inPlace 3)) = true := by kernel_rfl
theorem worldTells_j10 : ((Rows.worldTellsRow.unfollowed == Tryz.pinned.checked.prog.unfollowed 3)) = true := by kernel_rfl
theorem worldTells_j11 : ((Rows.worldTellsRow.recurses == Tryz.pinned.checked.prog.recurses 3)) = true := by kernel_rfl
theorem worldTells_j12 : ((Rows.worldTellsRow.named == Tryz.pinned.checked.prog.varsNamed 3)) = true := by kernel_rfl
theorem worldTells_j13 : ((Rows.worldTellsRow.maps == (Tryz.f3.params.toList ++ Rows.worldTellsSpec.plain.varTypes Tryz.pinned.checked.prog).any (Tryz.pinned.checked.prog.mapsRec ·))) = true := by kernel_rfl
theorem worldTells_j14 : ((Rows.worldTellsRow.ifaces == (Tryz.f3.params.toList ++ Rows.worldTellsSpec.plain.varTypes Tryz.pinned.checked.prog).any (Tryz.pinned.checked.prog.ifacesRec ·))) = true := by kernel_rfl
theorem worldTells_j15 : ((Rows.worldTellsRow.mapsOut == Tryz.pinned.checked.prog.mapsAmong Tryz.f3.resultTypes.toList)) = true := by kernel_rfl
theorem worldTells_j16 : ((Rows.worldTellsRow.loops == (Tryz.f3.params.toList ++ Rows.worldTellsSpec.plain.varTypes Tryz.pinned.checked.prog).any (Tryz.pinned.checked.prog.loopsFrom ·))) = true := by kernel_rfl
theorem worldTells_j17 : ((Rows.worldTellsRow.wideKeys == (Tryz.f3.params.toList ++ Rows.worldTellsSpec.plain.varTypes Tryz.pinned.checked.prog ++ Tryz.f3.resultTypes.toList).any (Tryz.pinned.checked.prog.wideKeysFrom ·))) = true := by kernel_rfl
theorem worldTells_j18 : (Rows.worldTellsSpec.vars.all (Tryz.pinned.checked.prog.varReadable ·)) = true := by kernel_rfl
theorem worldTells_j19 : (Tryz.f3.resultTypes.all (fun t => Tryz.pinned.checked.prog.readableRec t && decide (t < Tryz.pinned.checked.prog.types.size))) = true := by kernel_rfl
theorem worldTells_j20 : ((Rows.worldTellsRow.ifacesOut == Tryz.f3.resultTypes.toList.any (Tryz.pinned.checked.prog.ifacesRec ·))) = true := by kernel_rfl
theorem worldTells_j21 : ((Rows.worldTellsRow.loopsOut == Tryz.f3.resultTypes.toList.any (Tryz.pinned.checked.prog.loopsFrom ·))) = true := by kernel_rfl
theorem worldTells_j23 : (Rows.worldTellsRow.shortTexts.isNone) = true := by kernel_rfl
theorem worldTells_j28 : ((Rows.worldTellsRow.kinds == (if Rows.worldTellsRow.domain.isEmpty then [] else Tryz.f3.params.toList.map fun t => match Tryz.pinned.checked.prog.underlying t with | some (.int k) => some k | _ => none))) = true := by kernel_rfl
theorem worldTells_j29 : ((Rows.worldTellsRow.pinned == Rows.worldTellsRow.pinnedBy)) = true := by kernel_rfl
theorem worldTells_j30 : ((Rows.worldTellsRow.veiled == (Tryz.f3.params.toList ++ Rows.worldTellsSpec.plain.varTypes Tryz.pinned.checked.prog ++ Tryz.f3.resultTypes.toList).any (Tryz.pinned.checked.prog.veiledRec ·))) = true := by kernel_rfl
theorem worldTells_j31 : (Rows.worldTellsRow.veiledFits Tryz.pinned.checked.prog Tryz.f3.params.toList (Tryz.f3.params.toList ++ Rows.worldTellsSpec.plain.varTypes Tryz.pinned.checked.prog ++ Tryz.f3.resultTypes.toList)) = true := by kernel_rfl
set_option maxRecDepth 100000 in
theorem worldTells_closed : joinedFacts Tryz.pinned.checked.prog 3 Tryz.f3 Rows.worldTellsSpec Rows.worldTellsRow = true := by
  unfold joinedFacts
  exact aT (aT (aT (aT (aT (aT (aT (aT (aT (aT (aT (aT (aT (aT (aT (aT (aT (aT (aT (aT (aT (aT (aT (aT (aT (aT (aT (aT (aT (aT (aT (worldTells_j0) js_1) js_2) worldTells_j3) worldTells_j4) worldTells_j5) worldTells_j6) worldTells_j7) worldTells_j8) worldTells_j9) worldTells_j10) worldTells_j11) worldTells_j12) worldTells_j13) worldTells_j14) worldTells_j15) worldTells_j16) worldTells_j17) worldTells_j18) worldTells_j19) worldTells_j20) worldTells_j21) js_22) worldTells_j23) js_24) js_25) js_26) js_27) worldTells_j28) worldTells_j29) worldTells_j30) worldTells_j31
theorem worldTells_wrap : (Tryz.f3).isWrapper Tryz.pinned.checked.prog Rows.worldTellsRow.wrapper Rows.worldTellsRow.mainSum := by
  unfold Func.isWrapper; rw [if_neg (of_decide_eq_false (by kernel_rfl))]; exact ⟨rfl, rfl⟩
theorem worldTells_inst : (Tryz.f3).isInstance Tryz.pinned.checked.prog Rows.worldTellsRow.origin Rows.worldTellsRow.targs := of_decide_eq_true (by kernel_rfl)
theorem worldTells_fn : Tryz.pinned.checked.prog.funcNamed Rows.worldTellsRow.func = some 3 := by kernel_rfl
theorem worldTells_holds : Rows.WorldTellsSaid :=
  OpenClaim.holds_of_wide 3 Tryz.f3 rfl rfl rfl rfl rfl rfl rfl ⟨rfl, rfl, rfl, rfl, rfl⟩ rfl rfl rfl rfl rfl worldTells_fn Tryz.func3 worldTells_closed worldTells_inst worldTells_wrap
    (fun os started H enc _ => worldTells_lifted os started H enc)

end Go.Proofs.YtaecchphjploaaaGreat
