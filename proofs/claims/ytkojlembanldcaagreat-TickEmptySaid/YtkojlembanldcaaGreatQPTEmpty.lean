/- TickEmpty: a tick without orders is the world as it was, but for its number, in the stated form. -/
import Derived.Test.YtkojlembanldcaaGreatRm
import Derived.Test.YtkojlembanldcaaGreatGe
import Derived.Test.YtkojlembanldcaaGreatGk
set_option linter.unusedSimpArgs false
set_option linter.unusedVariables false
namespace Go.Proofs.YtkojlembanldcaaGreat
open Go Go.RowKit Eng

set_option maxRecDepth 100000 in
theorem tickEmpty_lifted (os : Os) (started : os.Started) (H : Type) (enc : TypeId × Value → H) :
    ReturnsInHanded {} Tryz.checked os 11 .any (Rows.tickEmptySpec.pre6 enc Tryz.prog Tryz.f11 Rows.tickEmptyRow.domain false) (Rows.tickEmptySpec.post enc Tryz.prog Tryz.f11 false true false false) := by
  refine lifted_true (C := Tryz.checked) (boolT := 4) P_own started (by kernel_rfl) Tryz.func11 P_laid (of_decide_eq_true (by kernel_rfl)) rfl boolUn rfl ?_
    (ChangeSpec.witness6 (enc := enc) (C := Tryz.checked) false ⟨#[], #[.agg #[.int .i64 0, .int .u64 0, .int .i64 0, .slice none 0 0, .slice none 0 0], .int .u8 0], []⟩ 8 (by kernel_rfl) (by kernel_rfl) (by kernel_rfl) (by kernel_rfl))
    (args_cons ag_world (args_cons ag_u8 (args_nil _))) ?_
  · intro ds hd
    match ds, hd with
    | [d1, d2], _ => rfl
  · rintro ⟨w, n, _⟩ ⟨hw, hn, _⟩
    exact tempty_api w n hw.okW hn

theorem tickEmpty_j0 : (Rows.tickEmptyRow.wf (OpenSpec.ofChange Rows.tickEmptySpec)) = true := by kernel_rfl
theorem tickEmpty_j3 : (Tryz.f11.params.all (Tryz.pinned.checked.prog.readableRec ·)) = true := by kernel_rfl
theorem tickEmpty_j4 : (namedTie Tryz.pinned.checked.prog Rows.tickEmptyRow.named Rows.tickEmptySpec.vars) = true := by kernel_rfl
theorem tickEmpty_j5 : ((Rows.tickEmptyRow.stops == [])) = true := by kernel_rfl
theorem tickEmpty_j6 : ((Tryz.pinned.checked.prog.stops == [])) = true := by kernel_rfl
theorem tickEmpty_j7 : ((Rows.tickEmptyRow.knobs == [])) = true := by kernel_rfl
theorem tickEmpty_j8 : ((Tryz.pinned.checked.prog.stopKnobs == [])) = true := by kernel_rfl
theorem tickEmpty_j9 : ((Rows.tickEmptyRow.inPlace == Tryz.pinned.checked.prog.inPlace 11)) = true := by kernel_rfl
theorem tickEmpty_j10 : ((Rows.tickEmptyRow.unfollowed == Tryz.pinned.checked.prog.unfollowed 11)) = true := by kernel_rfl
theorem tickEmpty_j11 : ((Rows.tickEmptyRow.recurses == Tryz.pinned.checked.prog.recurses 11)) = true := by kernel_rfl
theorem tickEmpty_j12 : ((Rows.tickEmptyRow.named == Tryz.pinned.checked.prog.varsNamed 11)) = true := by kernel_rfl
theorem tickEmpty_j13 : ((Rows.tickEmptyRow.maps == (Tryz.f11.params.toList ++ Rows.tickEmptySpec.plain.varTypes Tryz.pinned.checked.prog).any (Tryz.pinned.checked.prog.mapsRec ·))) = true := by kernel_rfl
theorem tickEmpty_j14 : ((Rows.tickEmptyRow.ifaces == (Tryz.f11.params.toList ++ Rows.tickEmptySpec.plain.varTypes Tryz.pinned.checked.prog).any (Tryz.pinned.checked.prog.ifacesRec ·))) = true := by kernel_rfl
theorem tickEmpty_j15 : ((Rows.tickEmptyRow.mapsOut == Tryz.pinned.checked.prog.mapsAmong Tryz.f11.resultTypes.toList)) = true := by kernel_rfl
theorem tickEmpty_j16 : ((Rows.tickEmptyRow.loops == (Tryz.f11.params.toList ++ Rows.tickEmptySpec.plain.varTypes Tryz.pinned.checked.prog).any (Tryz.pinned.checked.prog.loopsFrom ·))) = true := by kernel_rfl
theorem tickEmpty_j17 : ((Rows.tickEmptyRow.wideKeys == (Tryz.f11.params.toList ++ Rows.tickEmptySpec.plain.varTypes Tryz.pinned.checked.prog ++ Tryz.f11.resultTypes.toList).any (Tryz.pinned.checked.prog.wideKeysFrom ·))) = true := by kernel_rfl
theorem tickEmpty_j18 : (Rows.tickEmptySpec.vars.all (Tryz.pinned.checked.prog.varReadable ·)) = true := by kernel_rfl
theorem tickEmpty_j19 : (Tryz.f11.resultTypes.all (fun t => Tryz.pinned.checked.prog.readableRec t && decide (t < Tryz.pinned.checked.prog.types.size))) = true := by kernel_rfl
theorem tickEmpty_j20 : ((Rows.tickEmptyRow.ifacesOut == Tryz.f11.resultTypes.toList.any (Tryz.pinned.checked.prog.ifacesRec ·))) = true := by kernel_rfl
theorem tickEmpty_j21 : ((Rows.tickEmptyRow.loopsOut == Tryz.f11.resultTypes.toList.any (Tryz.pinned.checked.prog.loopsFrom ·))) = true := by kernel_rfl
theorem tickEmpty_j23 : (Rows.tickEmptyRow.shortTexts.isNone) = true := by kernel_rfl
theorem tickEmpty_j28 : ((Rows.tickEmptyRow.kinds == (if Rows.tickEmptyRow.domain.isEmpty then [] else Tryz.f11.params.toList.map fun t => match Tryz.pinned.checked.prog.underlying t with | some (.int k) => some k | _ => none))) = true := by kernel_rfl
theorem tickEmpty_j29 : ((Rows.tickEmptyRow.pinned == Rows.tickEmptyRow.pinnedBy)) = true := by kernel_rfl
theorem tickEmpty_j30 : ((Rows.tickEmptyRow.veiled == (Tryz.f11.params.toList ++ Rows.tickEmptySpec.plain.varTypes Tryz.pinned.checked.prog ++ Tryz.f11.resultTypes.toList).any (Tryz.pinned.checked.prog.veiledRec ·))) = true := by kernel_rfl
theorem tickEmpty_j31 : (Rows.tickEmptyRow.veiledFits Tryz.pinned.checked.prog Tryz.f11.params.toList (Tryz.f11.params.toList ++ Rows.tickEmptySpec.plain.varTypes Tryz.pinned.checked.prog ++ Tryz.f11.resultTypes.toList)) = true := by kernel_rfl
set_option maxRecDepth 100000 in
theorem tickEmpty_closed : joinedFacts Tryz.pinned.checked.prog 11 Tryz.f11 Rows.tickEmptySpec Rows.tickEmptyRow = true := by
  unfold joinedFacts
  exact aT (aT (aT (aT (aT (aT (aT (aT (aT (aT (aT (aT (aT (aT (aT (aT (aT (aT (aT (aT (aT (aT (aT (aT (aT (aT (aT (aT (aT (aT (aT (tickEmpty_j0) js_1) js_2) tickEmpty_j3) tickEmpty_j4) tickEmpty_j5) tickEmpty_j6) tickEmpty_j7) tickEmpty_j8) tickEmpty_j9) tickEmpty_j10) tickEmpty_j11) tickEmpty_j12) tickEmpty_j13) tickEmpty_j14) tickEmpty_j15) tickEmpty_j16) tickEmpty_j17) tickEmpty_j18) tickEmpty_j19) tickEmpty_j20) tickEmpty_j21) js_22) tickEmpty_j23) js_24) js_25) js_26) js_27) tickEmpty_j28) tickEmpty_j29) tickEmpty_j30) tickEmpty_j31
theorem tickEmpty_wrap : (Tryz.f11).isWrapper Tryz.pinned.checked.prog Rows.tickEmptyRow.wrapper Rows.tickEmptyRow.mainSum := by
  unfold Func.isWrapper; rw [if_neg (of_decide_eq_false (by kernel_rfl))]; exact ⟨rfl, rfl⟩
theorem tickEmpty_inst : (Tryz.f11).isInstance Tryz.pinned.checked.prog Rows.tickEmptyRow.origin Rows.tickEmptyRow.targs := of_decide_eq_true (by kernel_rfl)
theorem tickEmpty_fn : Tryz.pinned.checked.prog.funcNamed Rows.tickEmptyRow.func = some 11 := by kernel_rfl
theorem tickEmpty_holds : Rows.TickEmptySaid :=
  OpenClaim.holds_of_wide 11 Tryz.f11 rfl rfl rfl rfl rfl rfl rfl ⟨rfl, rfl, rfl, rfl, rfl⟩ rfl rfl rfl rfl rfl tickEmpty_fn Tryz.func11 tickEmpty_closed tickEmpty_inst tickEmpty_wrap
    (fun os started H enc _ => tickEmpty_lifted os started H enc)

end Go.Proofs.YtkojlembanldcaaGreat
