/- For every world and Id the call of homesteadlaw16.RulesComes returns true, and its arguments read as they did. No conditions. -/
import Derived.Test.YtkojlembanldcaaGreatRa
import Derived.Test.YtkojlembanldcaaGreatGe
import Derived.Test.YtkojlembanldcaaGreatGk
set_option linter.unusedSimpArgs false
set_option linter.unusedVariables false
namespace Go.Proofs.YtkojlembanldcaaGreat
open Go Go.RowKit Eng

set_option maxRecDepth 100000 in
theorem rulesComes_lifted (os : Os) (started : os.Started) (H : Type) (enc : TypeId × Value → H) :
    ReturnsInHanded {} Tryz.checked os 7 .any (Rows.rulesComesSpec.pre6 enc Tryz.prog Tryz.f7 Rows.rulesComesRow.domain false) (Rows.rulesComesSpec.post enc Tryz.prog Tryz.f7 false true false false) := by
  refine lifted_true (C := Tryz.checked) (boolT := 4) P_own started (by kernel_rfl) Tryz.func7 P_laid (of_decide_eq_true (by kernel_rfl)) rfl boolUn rfl ?_
    (ChangeSpec.witness6 (enc := enc) (C := Tryz.checked) false ⟨#[], #[.agg #[.int .i64 0, .int .u64 0, .int .i64 0, .slice none 0 0, .slice none 0 0], .int .i64 0], []⟩ 8 (by kernel_rfl) (by kernel_rfl) (by kernel_rfl) (by kernel_rfl))
    (args_cons ag_world (args_cons ag_int (args_nil _))) ?_
  · intro ds hd
    match ds, hd with
    | [d1, d2], _ => rfl
  · rintro ⟨w, id, _⟩ ⟨hw, hi, _⟩
    exact comes_api w id hw.okW hi

theorem rulesComes_j0 : (Rows.rulesComesRow.wf (OpenSpec.ofChange Rows.rulesComesSpec)) = true := by kernel_rfl
theorem rulesComes_j3 : (Tryz.f7.params.all (Tryz.pinned.checked.prog.readableRec ·)) = true := by kernel_rfl
theorem rulesComes_j4 : (namedTie Tryz.pinned.checked.prog Rows.rulesComesRow.named Rows.rulesComesSpec.vars) = true := by kernel_rfl
theorem rulesComes_j5 : ((Rows.rulesComesRow.stops == [])) = true := by kernel_rfl
theorem rulesComes_j6 : ((Tryz.pinned.checked.prog.stops == [])) = true := by kernel_rfl
theorem rulesComes_j7 : ((Rows.rulesComesRow.knobs == [])) = true := by kernel_rfl
theorem rulesComes_j8 : ((Tryz.pinned.checked.prog.stopKnobs == [])) = true := by kernel_rfl
theorem rulesComes_j9 : ((Rows.rulesComesRow.inPlace == Tryz.pinned.checked.prog.inPlace 7)) = true := by kernel_rfl
theorem rulesComes_j10 : ((Rows.rulesComesRow.unfollowed == Tryz.pinned.checked.prog.unfollowed 7)) = true := by kernel_rfl
theorem rulesComes_j11 : ((Rows.rulesComesRow.recurses == Tryz.pinned.checked.prog.recurses 7)) = true := by kernel_rfl
theorem rulesComes_j12 : ((Rows.rulesComesRow.named == Tryz.pinned.checked.prog.varsNamed 7)) = true := by kernel_rfl
theorem rulesComes_j13 : ((Rows.rulesComesRow.maps == (Tryz.f7.params.toList ++ Rows.rulesComesSpec.plain.varTypes Tryz.pinned.checked.prog).any (Tryz.pinned.checked.prog.mapsRec ·))) = true := by kernel_rfl
theorem rulesComes_j14 : ((Rows.rulesComesRow.ifaces == (Tryz.f7.params.toList ++ Rows.rulesComesSpec.plain.varTypes Tryz.pinned.checked.prog).any (Tryz.pinned.checked.prog.ifacesRec ·))) = true := by kernel_rfl
theorem rulesComes_j15 : ((Rows.rulesComesRow.mapsOut == Tryz.pinned.checked.prog.mapsAmong Tryz.f7.resultTypes.toList)) = true := by kernel_rfl
theorem rulesComes_j16 : ((Rows.rulesComesRow.loops == (Tryz.f7.params.toList ++ Rows.rulesComesSpec.plain.varTypes Tryz.pinned.checked.prog).any (Tryz.pinned.checked.prog.loopsFrom ·))) = true := by kernel_rfl
theorem rulesComes_j17 : ((Rows.rulesComesRow.wideKeys == (Tryz.f7.params.toList ++ Rows.rulesComesSpec.plain.varTypes Tryz.pinned.checked.prog ++ Tryz.f7.resultTypes.toList).any (Tryz.pinned.checked.prog.wideKeysFrom ·))) = true := by kernel_rfl
theorem rulesComes_j18 : (Rows.rulesComesSpec.vars.all (Tryz.pinned.checked.prog.varReadable ·)) = true := by kernel_rfl
theorem rulesComes_j19 : (Tryz.f7.resultTypes.all (fun t => Tryz.pinned.checked.prog.readableRec t && decide (t < Tryz.pinned.checked.prog.types.size))) = true := by kernel_rfl
theorem rulesComes_j20 : ((Rows.rulesComesRow.ifacesOut == Tryz.f7.resultTypes.toList.any (Tryz.pinned.checked.prog.ifacesRec ·))) = true := by kernel_rfl
theorem rulesComes_j21 : ((Rows.rulesComesRow.loopsOut == Tryz.f7.resultTypes.toList.any (Tryz.pinned.checked.prog.loopsFrom ·))) = true := by kernel_rfl
theorem rulesComes_j23 : (Rows.rulesComesRow.shortTexts.isNone) = true := by kernel_rfl
theorem rulesComes_j28 : ((Rows.rulesComesRow.kinds == (if Rows.rulesComesRow.domain.isEmpty then [] else Tryz.f7.params.toList.map fun t => match Tryz.pinned.checked.prog.underlying t with | some (.int k) => some k | _ => none))) = true := by kernel_rfl
theorem rulesComes_j29 : ((Rows.rulesComesRow.pinned == Rows.rulesComesRow.pinnedBy)) = true := by kernel_rfl
theorem rulesComes_j30 : ((Rows.rulesComesRow.veiled == (Tryz.f7.params.toList ++ Rows.rulesComesSpec.plain.varTypes Tryz.pinned.checked.prog ++ Tryz.f7.resultTypes.toList).any (Tryz.pinned.checked.prog.veiledRec ·))) = true := by kernel_rfl
theorem rulesComes_j31 : (Rows.rulesComesRow.veiledFits Tryz.pinned.checked.prog Tryz.f7.params.toList (Tryz.f7.params.toList ++ Rows.rulesComesSpec.plain.varTypes Tryz.pinned.checked.prog ++ Tryz.f7.resultTypes.toList)) = true := by kernel_rfl
set_option maxRecDepth 100000 in
theorem rulesComes_closed : joinedFacts Tryz.pinned.checked.prog 7 Tryz.f7 Rows.rulesComesSpec Rows.rulesComesRow = true := by
  unfold joinedFacts
  exact aT (aT (aT (aT (aT (aT (aT (aT (aT (aT (aT (aT (aT (aT (aT (aT (aT (aT (aT (aT (aT (aT (aT (aT (aT (aT (aT (aT (aT (aT (aT (rulesComes_j0) js_1) js_2) rulesComes_j3) rulesComes_j4) rulesComes_j5) rulesComes_j6) rulesComes_j7) rulesComes_j8) rulesComes_j9) rulesComes_j10) rulesComes_j11) rulesComes_j12) rulesComes_j13) rulesComes_j14) rulesComes_j15) rulesComes_j16) rulesComes_j17) rulesComes_j18) rulesComes_j19) rulesComes_j20) rulesComes_j21) js_22) rulesComes_j23) js_24) js_25) js_26) js_27) rulesComes_j28) rulesComes_j29) rulesComes_j30) rulesComes_j31
theorem rulesComes_wrap : (Tryz.f7).isWrapper Tryz.pinned.checked.prog Rows.rulesComesRow.wrapper Rows.rulesComesRow.mainSum := by
  unfold Func.isWrapper; rw [if_neg (of_decide_eq_false (by kernel_rfl))]; exact ⟨rfl, rfl⟩
theorem rulesComes_inst : (Tryz.f7).isInstance Tryz.pinned.checked.prog Rows.rulesComesRow.origin Rows.rulesComesRow.targs := of_decide_eq_true (by kernel_rfl)
theorem rulesComes_fn : Tryz.pinned.checked.prog.funcNamed Rows.rulesComesRow.func = some 7 := by kernel_rfl
theorem rulesComes_holds : Rows.RulesComesSaid :=
  OpenClaim.holds_of_wide 7 Tryz.f7 rfl rfl rfl rfl rfl rfl rfl ⟨rfl, rfl, rfl, rfl, rfl⟩ rfl rfl rfl rfl rfl rulesComes_fn Tryz.func7 rulesComes_closed rulesComes_inst rulesComes_wrap
    (fun os started H enc _ => rulesComes_lifted os started H enc)

end Go.Proofs.YtkojlembanldcaaGreat
