/- For every view, place and number the call of homesteadlaw20.SnapCells returns true, and its arguments read as they did. No conditions. -/
import Derived.Test.YtaecchphjploaaaGreatKr
import Derived.Test.YtaecchphjploaaaGreatKu
import Derived.Test.YtaecchphjploaaaGreatKt
set_option linter.unusedSimpArgs false
set_option linter.unusedVariables false
namespace Go.Proofs.YtaecchphjploaaaGreat
open Go Go.RowKit Eng

set_option maxRecDepth 100000 in
theorem snapCells_lifted (os : Os) (started : os.Started) (H : Type) (enc : TypeId × Value → H) :
    ReturnsInHanded {} Tryz.checked os 10 .any (Rows.snapCellsSpec.pre6 enc Tryz.prog Tryz.f10 Rows.snapCellsRow.domain false) (Rows.snapCellsSpec.post enc Tryz.prog Tryz.f10 false true false false) := by
  refine lifted_true (C := Tryz.checked) (boolT := 4) P_own started (by kernel_rfl) Tryz.func10 P_laid (of_decide_eq_true (by kernel_rfl)) rfl boolUn rfl ?_
    (ChangeSpec.witness6 (enc := enc) (C := Tryz.checked) false ⟨#[], #[.agg #[.int .i64 0, .int .i64 0, .int .i64 0, .int .i64 0, .slice none 0 0, .int .i64 0, .slice none 0 0, .bool false, .slice none 0 0, .slice none 0 0], .int .i64 0, .int .u8 0], []⟩ 8 (by kernel_rfl) (by kernel_rfl) (by kernel_rfl) (by kernel_rfl))
    (args_cons ag_view (args_cons ag_int (args_cons ag_u8 (args_nil _)))) ?_
  · intro ds hd
    match ds, hd with
    | [d1, d2, d3], _ => rfl
  · rintro ⟨a, b, c, _⟩ ⟨ha, hb, hc, _⟩
    exact snapCells_api a b c ha.okV hc

theorem snapCells_j0 : (Rows.snapCellsRow.wf (OpenSpec.ofChange Rows.snapCellsSpec)) = true := by kernel_rfl
theorem snapCells_j3 : (Tryz.f10.params.all (Tryz.pinned.checked.prog.readableRec ·)) = true := by kernel_rfl
theorem snapCells_j4 : (namedTie Tryz.pinned.checked.prog Rows.snapCellsRow.named Rows.snapCellsSpec.vars) = true := by kernel_rfl
theorem snapCells_j5 : ((Rows.snapCellsRow.stops == [])) = true := by kernel_rfl
theorem snapCells_j6 : ((Tryz.pinned.checked.prog.stops == [])) = true := by kernel_rfl
theorem snapCells_j7 : ((Rows.snapCellsRow.knobs == [])) = true := by kernel_rfl
theorem snapCells_j8 : ((Tryz.pinned.checked.prog.stopKnobs == [])) = true := by kernel_rfl
theorem snapCells_j9 : ((Rows.snapCellsRow.inPlace == Tryz.pinned.checked.prog.inPlace 10)) = true := by kernel_rfl
theorem snapCells_j10 : ((Rows.snapCellsRow.unfollowed == Tryz.pinned.checked.prog.unfollowed 10)) = true := by kernel_rfl
theorem snapCells_j11 : ((Rows.snapCellsRow.recurses == Tryz.pinned.checked.prog.recurses 10)) = true := by kernel_rfl
theorem snapCells_j12 : ((Rows.snapCellsRow.named == Tryz.pinned.checked.prog.varsNamed 10)) = true := by kernel_rfl
theorem snapCells_j13 : ((Rows.snapCellsRow.maps == (Tryz.f10.params.toList ++ Rows.snapCellsSpec.plain.varTypes Tryz.pinned.checked.prog).any (Tryz.pinned.checked.prog.mapsRec ·))) = true := by kernel_rfl
theorem snapCells_j14 : ((Rows.snapCellsRow.ifaces == (Tryz.f10.params.toList ++ Rows.snapCellsSpec.plain.varTypes Tryz.pinned.checked.prog).any (Tryz.pinned.checked.prog.ifacesRec ·))) = true := by kernel_rfl
theorem snapCells_j15 : ((Rows.snapCellsRow.mapsOut == Tryz.pinned.checked.prog.mapsAmong Tryz.f10.resultTypes.toList)) = true := by kernel_rfl
theorem snapCells_j16 : ((Rows.snapCellsRow.loops == (Tryz.f10.params.toList ++ Rows.snapCellsSpec.plain.varTypes Tryz.pinned.checked.prog).any (Tryz.pinned.checked.prog.loopsFrom ·))) = true := by kernel_rfl
theorem snapCells_j17 : ((Rows.snapCellsRow.wideKeys == (Tryz.f10.params.toList ++ Rows.snapCellsSpec.plain.varTypes Tryz.pinned.checked.prog ++ Tryz.f10.resultTypes.toList).any (Tryz.pinned.checked.prog.wideKeysFrom ·))) = true := by kernel_rfl
theorem snapCells_j18 : (Rows.snapCellsSpec.vars.all (Tryz.pinned.checked.prog.varReadable ·)) = true := by kernel_rfl
theorem snapCells_j19 : (Tryz.f10.resultTypes.all (fun t => Tryz.pinned.checked.prog.readableRec t && decide (t < Tryz.pinned.checked.prog.types.size))) = true := by kernel_rfl
theorem snapCells_j20 : ((Rows.snapCellsRow.ifacesOut == Tryz.f10.resultTypes.toList.any (Tryz.pinned.checked.prog.ifacesRec ·))) = true := by kernel_rfl
theorem snapCells_j21 : ((Rows.snapCellsRow.loopsOut == Tryz.f10.resultTypes.toList.any (Tryz.pinned.checked.prog.loopsFrom ·))) = true := by kernel_rfl
theorem snapCells_j23 : (Rows.snapCellsRow.shortTexts.isNone) = true := by kernel_rfl
theorem snapCells_j28 : ((Rows.snapCellsRow.kinds == (if Rows.snapCellsRow.domain.isEmpty then [] else Tryz.f10.params.toList.map fun t => match Tryz.pinned.checked.prog.underlying t with | some (.int k) => some k | _ => none))) = true := by kernel_rfl
theorem snapCells_j29 : ((Rows.snapCellsRow.pinned == Rows.snapCellsRow.pinnedBy)) = true := by kernel_rfl
theorem snapCells_j30 : ((Rows.snapCellsRow.veiled == (Tryz.f10.params.toList ++ Rows.snapCellsSpec.plain.varTypes Tryz.pinned.checked.prog ++ Tryz.f10.resultTypes.toList).any (Tryz.pinned.checked.prog.veiledRec ·))) = true := by kernel_rfl
theorem snapCells_j31 : (Rows.snapCellsRow.veiledFits Tryz.pinned.checked.prog Tryz.f10.params.toList (Tryz.f10.params.toList ++ Rows.snapCellsSpec.plain.varTypes Tryz.pinned.checked.prog ++ Tryz.f10.resultTypes.toList)) = true := by kernel_rfl
set_option maxRecDepth 100000 in
theorem snapCells_closed : joinedFacts Tryz.pinned.checked.prog 10 Tryz.f10 Rows.snapCellsSpec Rows.snapCellsRow = true := by
  unfold joinedFacts
  exact aT (aT (aT (aT (aT (aT (aT (aT (aT (aT (aT (aT (aT (aT (aT (aT (aT (aT (aT (aT (aT (aT (aT (aT (aT (aT (aT (aT (aT (aT (aT (snapCells_j0) js_1) js_2) snapCells_j3) snapCells_j4) snapCells_j5) snapCells_j6) snapCells_j7) snapCells_j8) snapCells_j9) snapCells_j10) snapCells_j11) snapCells_j12) snapCells_j13) snapCells_j14) snapCells_j15) snapCells_j16) snapCells_j17) snapCells_j18) snapCells_j19) snapCells_j20) snapCells_j21) js_22) snapCells_j23) js_24) js_25) js_26) js_27) snapCells_j28) snapCells_j29) snapCells_j30) snapCells_j31
theorem snapCells_wrap : (Tryz.f10).isWrapper Tryz.pinned.checked.prog Rows.snapCellsRow.wrapper Rows.snapCellsRow.mainSum := by
  unfold Func.isWrapper; rw [if_neg (of_decide_eq_false (by kernel_rfl))]; exact ⟨rfl, rfl⟩
theorem snapCells_inst : (Tryz.f10).isInstance Tryz.pinned.checked.prog Rows.snapCellsRow.origin Rows.snapCellsRow.targs := of_decide_eq_true (by kernel_rfl)
theorem snapCells_fn : Tryz.pinned.checked.prog.funcNamed Rows.snapCellsRow.func = some 10 := by kernel_rfl
theorem snapCells_holds : Rows.SnapCellsSaid :=
  OpenClaim.holds_of_wide 10 Tryz.f10 rfl rfl rfl rfl rfl rfl rfl ⟨rfl, rfl, rfl, rfl, rfl⟩ rfl rfl rfl rfl rfl snapCells_fn Tryz.func10 snapCells_closed snapCells_inst snapCells_wrap
    (fun os started H enc _ => snapCells_lifted os started H enc)

end Go.Proofs.YtaecchphjploaaaGreat
