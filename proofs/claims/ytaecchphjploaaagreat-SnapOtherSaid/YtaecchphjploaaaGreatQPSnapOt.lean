/- For every three views the call of homesteadlaw20.SnapOther returns true, and its arguments read as they did. No conditions. -/
import Derived.Test.YtaecchphjploaaaGreatGs
import Derived.Test.YtaecchphjploaaaGreatGu
import Derived.Test.YtaecchphjploaaaGreatGt
set_option linter.unusedSimpArgs false
set_option linter.unusedVariables false
namespace Go.Proofs.YtaecchphjploaaaGreat
open Go Go.RowKit Eng

set_option maxRecDepth 100000 in
theorem snapOther_lifted (os : Os) (started : os.Started) (H : Type) (enc : TypeId × Value → H) :
    ReturnsInHanded {} Tryz.checked os 9 .any (Rows.snapOtherSpec.pre6 enc Tryz.prog Tryz.f9 Rows.snapOtherRow.domain false) (Rows.snapOtherSpec.post enc Tryz.prog Tryz.f9 false true false false) := by
  refine lifted_true (C := Tryz.checked) (boolT := 4) P_own started (by kernel_rfl) Tryz.func9 P_laid (of_decide_eq_true (by kernel_rfl)) rfl boolUn rfl ?_
    (ChangeSpec.witness6 (enc := enc) (C := Tryz.checked) false ⟨#[], #[.agg #[.int .i64 0, .int .i64 0, .int .i64 0, .int .i64 0, .slice none 0 0, .int .i64 0, .slice none 0 0, .bool false, .slice none 0 0, .slice none 0 0], .agg #[.int .i64 0, .int .i64 0, .int .i64 0, .int .i64 0, .slice none 0 0, .int .i64 0, .slice none 0 0, .bool false, .slice none 0 0, .slice none 0 0], .agg #[.int .i64 0, .int .i64 0, .int .i64 0, .int .i64 0, .slice none 0 0, .int .i64 0, .slice none 0 0, .bool false, .slice none 0 0, .slice none 0 0]], []⟩ 8 (by kernel_rfl) (by kernel_rfl) (by kernel_rfl) (by kernel_rfl))
    (args_cons ag_view (args_cons ag_view (args_cons ag_view (args_nil _)))) ?_
  · intro ds hd
    match ds, hd with
    | [d1, d2, d3], _ => rfl
  · rintro ⟨a, b, c, _⟩ ⟨ha, hb, hc, _⟩
    exact snapOther_api a b c ha.okV hb.okV hc.okV

theorem snapOther_j0 : (Rows.snapOtherRow.wf (OpenSpec.ofChange Rows.snapOtherSpec)) = true := by kernel_rfl
theorem snapOther_j3 : (Tryz.f9.params.all (Tryz.pinned.checked.prog.readableRec ·)) = true := by kernel_rfl
theorem snapOther_j4 : (namedTie Tryz.pinned.checked.prog Rows.snapOtherRow.named Rows.snapOtherSpec.vars) = true := by kernel_rfl
theorem snapOther_j5 : ((Rows.snapOtherRow.stops == [])) = true := by kernel_rfl
theorem snapOther_j6 : ((Tryz.pinned.checked.prog.stops == [])) = true := by kernel_rfl
theorem snapOther_j7 : ((Rows.snapOtherRow.knobs == [])) = true := by kernel_rfl
theorem snapOther_j8 : ((Tryz.pinned.checked.prog.stopKnobs == [])) = true := by kernel_rfl
theorem snapOther_j9 : ((Rows.snapOtherRow.inPlace == Tryz.pinned.checked.prog.inPlace 9)) = true := by kernel_rfl
theorem snapOther_j10 : ((Rows.snapOtherRow.unfollowed == Tryz.pinned.checked.prog.unfollowed 9)) = true := by kernel_rfl
theorem snapOther_j11 : ((Rows.snapOtherRow.recurses == Tryz.pinned.checked.prog.recurses 9)) = true := by kernel_rfl
theorem snapOther_j12 : ((Rows.snapOtherRow.named == Tryz.pinned.checked.prog.varsNamed 9)) = true := by kernel_rfl
theorem snapOther_j13 : ((Rows.snapOtherRow.maps == (Tryz.f9.params.toList ++ Rows.snapOtherSpec.plain.varTypes Tryz.pinned.checked.prog).any (Tryz.pinned.checked.prog.mapsRec ·))) = true := by kernel_rfl
theorem snapOther_j14 : ((Rows.snapOtherRow.ifaces == (Tryz.f9.params.toList ++ Rows.snapOtherSpec.plain.varTypes Tryz.pinned.checked.prog).any (Tryz.pinned.checked.prog.ifacesRec ·))) = true := by kernel_rfl
theorem snapOther_j15 : ((Rows.snapOtherRow.mapsOut == Tryz.pinned.checked.prog.mapsAmong Tryz.f9.resultTypes.toList)) = true := by kernel_rfl
theorem snapOther_j16 : ((Rows.snapOtherRow.loops == (Tryz.f9.params.toList ++ Rows.snapOtherSpec.plain.varTypes Tryz.pinned.checked.prog).any (Tryz.pinned.checked.prog.loopsFrom ·))) = true := by kernel_rfl
theorem snapOther_j17 : ((Rows.snapOtherRow.wideKeys == (Tryz.f9.params.toList ++ Rows.snapOtherSpec.plain.varTypes Tryz.pinned.checked.prog ++ Tryz.f9.resultTypes.toList).any (Tryz.pinned.checked.prog.wideKeysFrom ·))) = true := by kernel_rfl
theorem snapOther_j18 : (Rows.snapOtherSpec.vars.all (Tryz.pinned.checked.prog.varReadable ·)) = true := by kernel_rfl
theorem snapOther_j19 : (Tryz.f9.resultTypes.all (fun t => Tryz.pinned.checked.prog.readableRec t && decide (t < Tryz.pinned.checked.prog.types.size))) = true := by kernel_rfl
theorem snapOther_j20 : ((Rows.snapOtherRow.ifacesOut == Tryz.f9.resultTypes.toList.any (Tryz.pinned.checked.prog.ifacesRec ·))) = true := by kernel_rfl
theorem snapOther_j21 : ((Rows.snapOtherRow.loopsOut == Tryz.f9.resultTypes.toList.any (Tryz.pinned.checked.prog.loopsFrom ·))) = true := by kernel_rfl
theorem snapOther_j23 : (Rows.snapOtherRow.shortTexts.isNone) = true := by kernel_rfl
theorem snapOther_j28 : ((Rows.snapOtherRow.kinds == (if Rows.snapOtherRow.domain.isEmpty then [] else Tryz.f9.params.toList.map fun t => match Tryz.pinned.checked.prog.underlying t with | some (.int k) => some k | _ => none))) = true := by kernel_rfl
theorem snapOther_j29 : ((Rows.snapOtherRow.pinned == Rows.snapOtherRow.pinnedBy)) = true := by kernel_rfl
theorem snapOther_j30 : ((Rows.snapOtherRow.veiled == (Tryz.f9.params.toList ++ Rows.snapOtherSpec.plain.varTypes Tryz.pinned.checked.prog ++ Tryz.f9.resultTypes.toList).any (Tryz.pinned.checked.prog.veiledRec ·))) = true := by kernel_rfl
theorem snapOther_j31 : (Rows.snapOtherRow.veiledFits Tryz.pinned.checked.prog Tryz.f9.params.toList (Tryz.f9.params.toList ++ Rows.snapOtherSpec.plain.varTypes Tryz.pinned.checked.prog ++ Tryz.f9.resultTypes.toList)) = true := by kernel_rfl
set_option maxRecDepth 100000 in
theorem snapOther_closed : joinedFacts Tryz.pinned.checked.prog 9 Tryz.f9 Rows.snapOtherSpec Rows.snapOtherRow = true := by
  unfold joinedFacts
  exact aT (aT (aT (aT (aT (aT (aT (aT (aT (aT (aT (aT (aT (aT (aT (aT (aT (aT (aT (aT (aT (aT (aT (aT (aT (aT (aT (aT (aT (aT (aT (snapOther_j0) js_1) js_2) snapOther_j3) snapOther_j4) snapOther_j5) snapOther_j6) snapOther_j7) snapOther_j8) snapOther_j9) snapOther_j10) snapOther_j11) snapOther_j12) snapOther_j13) snapOther_j14) snapOther_j15) snapOther_j16) snapOther_j17) snapOther_j18) snapOther_j19) snapOther_j20) snapOther_j21) js_22) snapOther_j23) js_24) js_25) js_26) js_27) snapOther_j28) snapOther_j29) snapOther_j30) snapOther_j31
theorem snapOther_wrap : (Tryz.f9).isWrapper Tryz.pinned.checked.prog Rows.snapOtherRow.wrapper Rows.snapOtherRow.mainSum := by
  unfold Func.isWrapper; rw [if_neg (of_decide_eq_false (by kernel_rfl))]; exact ⟨rfl, rfl⟩
theorem snapOther_inst : (Tryz.f9).isInstance Tryz.pinned.checked.prog Rows.snapOtherRow.origin Rows.snapOtherRow.targs := of_decide_eq_true (by kernel_rfl)
theorem snapOther_fn : Tryz.pinned.checked.prog.funcNamed Rows.snapOtherRow.func = some 9 := by kernel_rfl
theorem snapOther_holds : Rows.SnapOtherSaid :=
  OpenClaim.holds_of_wide 9 Tryz.f9 rfl rfl rfl rfl rfl rfl rfl ⟨rfl, rfl, rfl, rfl, rfl⟩ rfl rfl rfl rfl rfl snapOther_fn Tryz.func9 snapOther_closed snapOther_inst snapOther_wrap
    (fun os started H enc _ => snapOther_lifted os started H enc)

end Go.Proofs.YtaecchphjploaaaGreat
