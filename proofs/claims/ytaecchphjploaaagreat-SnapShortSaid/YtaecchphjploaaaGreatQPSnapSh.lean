/- For every view the call of homesteadlaw20.SnapShort returns true, and its argument reads as it did. No conditions. -/
import Derived.Test.YtaecchphjploaaaGreatGr
import Derived.Test.YtaecchphjploaaaGreatGu
import Derived.Test.YtaecchphjploaaaGreatGt
set_option linter.unusedSimpArgs false
set_option linter.unusedVariables false
namespace Go.Proofs.YtaecchphjploaaaGreat
open Go Go.RowKit Eng

set_option maxRecDepth 100000 in
theorem snapShort_lifted (os : Os) (started : os.Started) (H : Type) (enc : TypeId × Value → H) :
    ReturnsInHanded {} Tryz.checked os 5 .any (Rows.snapShortSpec.pre6 enc Tryz.prog Tryz.f5 Rows.snapShortRow.domain false) (Rows.snapShortSpec.post enc Tryz.prog Tryz.f5 false true false false) := by
  refine lifted_true (C := Tryz.checked) (boolT := 4) P_own started (by kernel_rfl) Tryz.func5 P_laid (of_decide_eq_true (by kernel_rfl)) rfl boolUn rfl ?_
    (ChangeSpec.witness6 (enc := enc) (C := Tryz.checked) false ⟨#[], #[.agg #[.int .i64 0, .int .i64 0, .int .i64 0, .int .i64 0, .slice none 0 0, .int .i64 0, .slice none 0 0, .bool false, .slice none 0 0, .slice none 0 0]], []⟩ 8 (by kernel_rfl) (by kernel_rfl) (by kernel_rfl) (by kernel_rfl))
    (args_cons ag_view (args_nil _)) ?_
  · intro ds hd
    match ds, hd with
    | [d1], _ => rfl
  · rintro ⟨v, _⟩ ⟨hv, _⟩
    exact snapShort_api v hv.okV

theorem snapShort_j0 : (Rows.snapShortRow.wf (OpenSpec.ofChange Rows.snapShortSpec)) = true := by kernel_rfl
theorem snapShort_j3 : (Tryz.f5.params.all (Tryz.pinned.checked.prog.readableRec ·)) = true := by kernel_rfl
theorem snapShort_j4 : (namedTie Tryz.pinned.checked.prog Rows.snapShortRow.named Rows.snapShortSpec.vars) = true := by kernel_rfl
theorem snapShort_j5 : ((Rows.snapShortRow.stops == [])) = true := by kernel_rfl
theorem snapShort_j6 : ((Tryz.pinned.checked.prog.stops == [])) = true := by kernel_rfl
theorem snapShort_j7 : ((Rows.snapShortRow.knobs == [])) = true := by kernel_rfl
theorem snapShort_j8 : ((Tryz.pinned.checked.prog.stopKnobs == [])) = true := by kernel_rfl
theorem snapShort_j9 : ((Rows.snapShortRow.inPlace == Tryz.pinned.checked.prog.inPlace 5)) = true := by kernel_rfl
theorem snapShort_j10 : ((Rows.snapShortRow.unfollowed == Tryz.pinned.checked.prog.unfollowed 5)) = true := by kernel_rfl
theorem snapShort_j11 : ((Rows.snapShortRow.recurses == Tryz.pinned.checked.prog.recurses 5)) = true := by kernel_rfl
theorem snapShort_j12 : ((Rows.snapShortRow.named == Tryz.pinned.checked.prog.varsNamed 5)) = true := by kernel_rfl
theorem snapShort_j13 : ((Rows.snapShortRow.maps == (Tryz.f5.params.toList ++ Rows.snapShortSpec.plain.varTypes Tryz.pinned.checked.prog).any (Tryz.pinned.checked.prog.mapsRec ·))) = true := by kernel_rfl
theorem snapShort_j14 : ((Rows.snapShortRow.ifaces == (Tryz.f5.params.toList ++ Rows.snapShortSpec.plain.varTypes Tryz.pinned.checked.prog).any (Tryz.pinned.checked.prog.ifacesRec ·))) = true := by kernel_rfl
theorem snapShort_j15 : ((Rows.snapShortRow.mapsOut == Tryz.pinned.checked.prog.mapsAmong Tryz.f5.resultTypes.toList)) = true := by kernel_rfl
theorem snapShort_j16 : ((Rows.snapShortRow.loops == (Tryz.f5.params.toList ++ Rows.snapShortSpec.plain.varTypes Tryz.pinned.checked.prog).any (Tryz.pinned.checked.prog.loopsFrom ·))) = true := by kernel_rfl
theorem snapShort_j17 : ((Rows.snapShortRow.wideKeys == (Tryz.f5.params.toList ++ Rows.snapShortSpec.plain.varTypes Tryz.pinned.checked.prog ++ Tryz.f5.resultTypes.toList).any (Tryz.pinned.checked.prog.wideKeysFrom ·))) = true := by kernel_rfl
theorem snapShort_j18 : (Rows.snapShortSpec.vars.all (Tryz.pinned.checked.prog.varReadable ·)) = true := by kernel_rfl
theorem snapShort_j19 : (Tryz.f5.resultTypes.all (fun t => Tryz.pinned.checked.prog.readableRec t && decide (t < Tryz.pinned.checked.prog.types.size))) = true := by kernel_rfl
theorem snapShort_j20 : ((Rows.snapShortRow.ifacesOut == Tryz.f5.resultTypes.toList.any (Tryz.pinned.checked.prog.ifacesRec ·))) = true := by kernel_rfl
theorem snapShort_j21 : ((Rows.snapShortRow.loopsOut == Tryz.f5.resultTypes.toList.any (Tryz.pinned.checked.prog.loopsFrom ·))) = true := by kernel_rfl
theorem snapShort_j23 : (Rows.snapShortRow.shortTexts.isNone) = true := by kernel_rfl
theorem snapShort_j28 : ((Rows.snapShortRow.kinds == (if Rows.snapShortRow.domain.isEmpty then [] else Tryz.f5.params.toList.map fun t => match Tryz.pinned.checked.prog.underlying t with | some (.int k) => some k | _ => none))) = true := by kernel_rfl
theorem snapShort_j29 : ((Rows.snapShortRow.pinned == Rows.snapShortRow.pinnedBy)) = true := by kernel_rfl
theorem snapShort_j30 : ((Rows.snapShortRow.veiled == (Tryz.f5.params.toList ++ Rows.snapShortSpec.plain.varTypes Tryz.pinned.checked.prog ++ Tryz.f5.resultTypes.toList).any (Tryz.pinned.checked.prog.veiledRec ·))) = true := by kernel_rfl
theorem snapShort_j31 : (Rows.snapShortRow.veiledFits Tryz.pinned.checked.prog Tryz.f5.params.toList (Tryz.f5.params.toList ++ Rows.snapShortSpec.plain.varTypes Tryz.pinned.checked.prog ++ Tryz.f5.resultTypes.toList)) = true := by kernel_rfl
set_option maxRecDepth 100000 in
theorem snapShort_closed : joinedFacts Tryz.pinned.checked.prog 5 Tryz.f5 Rows.snapShortSpec Rows.snapShortRow = true := by
  unfold joinedFacts
  exact aT (aT (aT (aT (aT (aT (aT (aT (aT (aT (aT (aT (aT (aT (aT (aT (aT (aT (aT (aT (aT (aT (aT (aT (aT (aT (aT (aT (aT (aT (aT (snapShort_j0) js_1) js_2) snapShort_j3) snapShort_j4) snapShort_j5) snapShort_j6) snapShort_j7) snapShort_j8) snapShort_j9) snapShort_j10) snapShort_j11) snapShort_j12) snapShort_j13) snapShort_j14) snapShort_j15) snapShort_j16) snapShort_j17) snapShort_j18) snapShort_j19) snapShort_j20) snapShort_j21) js_22) snapShort_j23) js_24) js_25) js_26) js_27) snapShort_j28) snapShort_j29) snapShort_j30) snapShort_j31
theorem snapShort_wrap : (Tryz.f5).isWrapper Tryz.pinned.checked.prog Rows.snapShortRow.wrapper Rows.snapShortRow.mainSum := by
  unfold Func.isWrapper; rw [if_neg (of_decide_eq_false (by kernel_rfl))]; exact ⟨rfl, rfl⟩
theorem snapShort_inst : (Tryz.f5).isInstance Tryz.pinned.checked.prog Rows.snapShortRow.origin Rows.snapShortRow.targs := of_decide_eq_true (by kernel_rfl)
theorem snapShort_fn : Tryz.pinned.checked.prog.funcNamed Rows.snapShortRow.func = some 5 := by kernel_rfl
theorem snapShort_holds : Rows.SnapShortSaid :=
  OpenClaim.holds_of_wide 5 Tryz.f5 rfl rfl rfl rfl rfl rfl rfl ⟨rfl, rfl, rfl, rfl, rfl⟩ rfl rfl rfl rfl rfl snapShort_fn Tryz.func5 snapShort_closed snapShort_inst snapShort_wrap
    (fun os started H enc _ => snapShort_lifted os started H enc)

end Go.Proofs.YtaecchphjploaaaGreat
