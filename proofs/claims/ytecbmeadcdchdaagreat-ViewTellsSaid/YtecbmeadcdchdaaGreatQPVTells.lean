/- For every world, numbers and two views the call of homesteadlaw19.ViewTells returns true, and its arguments read as they did. No conditions. -/
import Derived.Test.YtecbmeadcdchdaaGreatGt
import Derived.Test.YtecbmeadcdchdaaGreatGu
set_option linter.unusedSimpArgs false
set_option linter.unusedVariables false
namespace Go.Proofs.YtecbmeadcdchdaaGreat
open Go Go.RowKit Eng

set_option maxRecDepth 100000 in
theorem viewTells_lifted (os : Os) (started : os.Started) (H : Type) (enc : TypeId × Value → H) :
    ReturnsInHanded {} Tryz.checked os 3 .any (Rows.viewTellsSpec.pre6 enc Tryz.prog Tryz.f3 Rows.viewTellsRow.domain false) (Rows.viewTellsSpec.post enc Tryz.prog Tryz.f3 false true false false) := by
  refine lifted_true (C := Tryz.checked) (boolT := 4) P_own started (by kernel_rfl) Tryz.func3 P_laid (of_decide_eq_true (by kernel_rfl)) rfl boolUn rfl ?_
    (ChangeSpec.witness6 (enc := enc) (C := Tryz.checked) false ⟨#[], #[.agg #[.int .i64 0, .int .u64 0, .int .i64 0, .slice none 0 0, .slice none 0 0], .agg #[.int .i64 0, .int .i64 0, .int .i64 0, .int .i64 0], .agg #[.int .i64 0, .int .i64 0, .int .i64 0, .int .i64 0, .slice none 0 0, .int .i64 0, .slice none 0 0, .bool false, .slice none 0 0, .slice none 0 0, .int .i64 0, .int .i64 0, .int .i64 0, .int .i64 0, .slice none 0 0, .int .i64 0, .slice none 0 0, .bool false, .slice none 0 0, .slice none 0 0]], []⟩ 8 (by kernel_rfl) (by kernel_rfl) (by kernel_rfl) (by kernel_rfl))
    (args_cons ag_world (args_cons ag_4int (args_cons ag_2view (args_nil _)))) ?_
  · intro ds hd
    match ds, hd with
    | [d1, d2, d3], _ => rfl
  · rintro ⟨w, ⟨i, r, x, y, _⟩, ⟨a, b, _⟩, _⟩ ⟨hw, _, ⟨ha, hb, _⟩, _⟩
    exact vtells_api w hw.okW i r x y a b ha.okV hb.okV

theorem viewTells_j0 : (Rows.viewTellsRow.wf (OpenSpec.ofChange Rows.viewTellsSpec)) = true := by kernel_rfl
theorem viewTells_j3 : (Tryz.f3.params.all (Tryz.pinned.checked.prog.readableRec ·)) = true := by kernel_rfl
theorem viewTells_j4 : (namedTie Tryz.pinned.checked.prog Rows.viewTellsRow.named Rows.viewTellsSpec.vars) = true := by kernel_rfl
theorem viewTells_j5 : ((Rows.viewTellsRow.stops == [])) = true := by kernel_rfl
theorem viewTells_j6 : ((Tryz.pinned.checked.prog.stops == [])) = true := by kernel_rfl
theorem viewTells_j7 : ((Rows.viewTellsRow.knobs == [])) = true := by kernel_rfl
theorem viewTells_j8 : ((Tryz.pinned.checked.prog.stopKnobs == [])) = true := by kernel_rfl
theorem viewTells_j9 : ((Rows.viewTellsRow.inPlace == Tryz.pinned.checked.prog.inPlace 3)) = true := by kernel_rfl
theorem viewTells_j10 : ((Rows.viewTellsRow.unfollowed == Tryz.pinned.checked.prog.unfollowed 3)) = true := by kernel_rfl
theorem viewTells_j11 : ((Rows.viewTellsRow.recurses == Tryz.pinned.checked.prog.recurses 3)) = true := by kernel_rfl
theorem viewTells_j12 : ((Rows.viewTellsRow.named == Tryz.pinned.checked.prog.varsNamed 3)) = true := by kernel_rfl
theorem viewTells_j13 : ((Rows.viewTellsRow.maps == (Tryz.f3.params.toList ++ Rows.viewTellsSpec.plain.varTypes Tryz.pinned.checked.prog).any (Tryz.pinned.checked.prog.mapsRec ·))) = true := by kernel_rfl
theorem viewTells_j14 : ((Rows.viewTellsRow.ifaces == (Tryz.f3.params.toList ++ Rows.viewTellsSpec.plain.varTypes Tryz.pinned.checked.prog).any (Tryz.pinned.checked.prog.ifacesRec ·))) = true := by kernel_rfl
theorem viewTells_j15 : ((Rows.viewTellsRow.mapsOut == Tryz.pinned.checked.prog.mapsAmong Tryz.f3.resultTypes.toList)) = true := by kernel_rfl
theorem viewTells_j16 : ((Rows.viewTellsRow.loops == (Tryz.f3.params.toList ++ Rows.viewTellsSpec.plain.varTypes Tryz.pinned.checked.prog).any (Tryz.pinned.checked.prog.loopsFrom ·))) = true := by kernel_rfl
theorem viewTells_j17 : ((Rows.viewTellsRow.wideKeys == (Tryz.f3.params.toList ++ Rows.viewTellsSpec.plain.varTypes Tryz.pinned.checked.prog ++ Tryz.f3.resultTypes.toList).any (Tryz.pinned.checked.prog.wideKeysFrom ·))) = true := by kernel_rfl
theorem viewTells_j18 : (Rows.viewTellsSpec.vars.all (Tryz.pinned.checked.prog.varReadable ·)) = true := by kernel_rfl
theorem viewTells_j19 : (Tryz.f3.resultTypes.all (fun t => Tryz.pinned.checked.prog.readableRec t && decide (t < Tryz.pinned.checked.prog.types.size))) = true := by kernel_rfl
theorem viewTells_j20 : ((Rows.viewTellsRow.ifacesOut == Tryz.f3.resultTypes.toList.any (Tryz.pinned.checked.prog.ifacesRec ·))) = true := by kernel_rfl
theorem viewTells_j21 : ((Rows.viewTellsRow.loopsOut == Tryz.f3.resultTypes.toList.any (Tryz.pinned.checked.prog.loopsFrom ·))) = true := by kernel_rfl
theorem viewTells_j23 : (Rows.viewTellsRow.shortTexts.isNone) = true := by kernel_rfl
theorem viewTells_j28 : ((Rows.viewTellsRow.kinds == (if Rows.viewTellsRow.domain.isEmpty then [] else Tryz.f3.params.toList.map fun t => match Tryz.pinned.checked.prog.underlying t with | some (.int k) => some k | _ => none))) = true := by kernel_rfl
theorem viewTells_j29 : ((Rows.viewTellsRow.pinned == Rows.viewTellsRow.pinnedBy)) = true := by kernel_rfl
theorem viewTells_j30 : ((Rows.viewTellsRow.veiled == (Tryz.f3.params.toList ++ Rows.viewTellsSpec.plain.varTypes Tryz.pinned.checked.prog ++ Tryz.f3.resultTypes.toList).any (Tryz.pinned.checked.prog.veiledRec ·))) = true := by kernel_rfl
theorem viewTells_j31 : (Rows.viewTellsRow.veiledFits Tryz.pinned.checked.prog Tryz.f3.params.toList (Tryz.f3.params.toList ++ Rows.viewTellsSpec.plain.varTypes Tryz.pinned.checked.prog ++ Tryz.f3.resultTypes.toList)) = true := by kernel_rfl
set_option maxRecDepth 100000 in
theorem viewTells_closed : joinedFacts Tryz.pinned.checked.prog 3 Tryz.f3 Rows.viewTellsSpec Rows.viewTellsRow = true := by
  unfold joinedFacts
  exact aT (aT (aT (aT (aT (aT (aT (aT (aT (aT (aT (aT (aT (aT (aT (aT (aT (aT (aT (aT (aT (aT (aT (aT (aT (aT (aT (aT (aT (aT (aT (viewTells_j0) js_1) js_2) viewTells_j3) viewTells_j4) viewTells_j5) viewTells_j6) viewTells_j7) viewTells_j8) viewTells_j9) viewTells_j10) viewTells_j11) viewTells_j12) viewTells_j13) viewTells_j14) viewTells_j15) viewTells_j16) viewTells_j17) viewTells_j18) viewTells_j19) viewTells_j20) viewTells_j21) js_22) viewTells_j23) js_24) js_25) js_26) js_27) viewTells_j28) viewTells_j29) viewTells_j30) viewTells_j31
theorem viewTells_wrap : (Tryz.f3).isWrapper Tryz.pinned.checked.prog Rows.viewTellsRow.wrapper Rows.viewTellsRow.mainSum := by
  unfold Func.isWrapper; rw [if_neg (of_decide_eq_false (by kernel_rfl))]; exact ⟨rfl, rfl⟩
theorem viewTells_inst : (Tryz.f3).isInstance Tryz.pinned.checked.prog Rows.viewTellsRow.origin Rows.viewTellsRow.targs := of_decide_eq_true (by kernel_rfl)
theorem viewTells_fn : Tryz.pinned.checked.prog.funcNamed Rows.viewTellsRow.func = some 3 := by kernel_rfl
theorem viewTells_holds : Rows.ViewTellsSaid :=
  OpenClaim.holds_of_wide 3 Tryz.f3 rfl rfl rfl rfl rfl rfl rfl ⟨rfl, rfl, rfl, rfl, rfl⟩ rfl rfl rfl rfl rfl viewTells_fn Tryz.func3 viewTells_closed viewTells_inst viewTells_wrap
    (fun os started H enc _ => viewTells_lifted os started H enc)

end Go.Proofs.YtecbmeadcdchdaaGreat
