/- RulesBack: what is done can be undone, in the stated form. -/
import Derived.Test.YtkojlembanldcaaGreatRg
import Derived.Test.YtkojlembanldcaaGreatGe
import Derived.Test.YtkojlembanldcaaGreatRd
import Derived.Test.YtkojlembanldcaaGreatGk
set_option linter.unusedSimpArgs false
set_option linter.unusedVariables false
namespace Go.Proofs.YtkojlembanldcaaGreat
open Go Go.RowKit Eng

set_option maxRecDepth 100000 in
theorem rulesBack_lifted (os : Os) (started : os.Started) (H : Type) (enc : TypeId × Value → H) :
    ReturnsInHanded {} Tryz.checked os 5 .any (Rows.rulesBackSpec.pre6 enc Tryz.prog Tryz.f5 Rows.rulesBackRow.domain false) (Rows.rulesBackSpec.post enc Tryz.prog Tryz.f5 false true false false) := by
  refine lifted_true (C := Tryz.checked) (boolT := 4) P_own started (by kernel_rfl) Tryz.func5 P_laid (of_decide_eq_true (by kernel_rfl)) rfl boolUn rfl ?_
    (ChangeSpec.witness6 (enc := enc) (C := Tryz.checked) false ⟨#[], #[.agg #[.int .i64 0, .int .u64 0, .int .i64 0, .slice none 0 0, .slice none 0 0], .agg #[.int .i64 0, .int .u8 0, .int .i64 0, .int .i64 0, .int .i64 0, .int .i64 0]], []⟩ 8 (by kernel_rfl) (by kernel_rfl) (by kernel_rfl) (by kernel_rfl))
    (args_cons ag_world (args_cons ag_doo (args_nil _))) ?_
  · intro ds hd
    match ds, hd with
    | [d1, d2], _ => rfl
  · rintro ⟨w, d, _⟩ ⟨hw, hd, _⟩
    exact rback_api w d.id d.cmd hw.okW hd.ok.1 hd.ok.2

theorem rulesBack_j0 : (Rows.rulesBackRow.wf (OpenSpec.ofChange Rows.rulesBackSpec)) = true := by kernel_rfl
theorem rulesBack_j3 : (Tryz.f5.params.all (Tryz.pinned.checked.prog.readableRec ·)) = true := by kernel_rfl
theorem rulesBack_j4 : (namedTie Tryz.pinned.checked.prog Rows.rulesBackRow.named Rows.rulesBackSpec.vars) = true := by kernel_rfl
theorem rulesBack_j5 : ((Rows.rulesBackRow.stops == [])) = true := by kernel_rfl
theorem rulesBack_j6 : ((Tryz.pinned.checked.prog.stops == [])) = true := by kernel_rfl
theorem rulesBack_j7 : ((Rows.rulesBackRow.knobs == [])) = true := by kernel_rfl
theorem rulesBack_j8 : ((Tryz.pinned.checked.prog.stopKnobs == [])) = true := by kernel_rfl
theorem rulesBack_j9 : ((Rows.rulesBackRow.inPlace == Tryz.pinned.checked.prog.inPlace 5)) = true := by kernel_rfl
theorem rulesBack_j10 : ((Rows.rulesBackRow.unfollowed == Tryz.pinned.checked.prog.unfollowed 5)) = true := by kernel_rfl
theorem rulesBack_j11 : ((Rows.rulesBackRow.recurses == Tryz.pinned.checked.prog.recurses 5)) = true := by kernel_rfl
theorem rulesBack_j12 : ((Rows.rulesBackRow.named == Tryz.pinned.checked.prog.varsNamed 5)) = true := by kernel_rfl
theorem rulesBack_j13 : ((Rows.rulesBackRow.maps == (Tryz.f5.params.toList ++ Rows.rulesBackSpec.plain.varTypes Tryz.pinned.checked.prog).any (Tryz.pinned.checked.prog.mapsRec ·))) = true := by kernel_rfl
theorem rulesBack_j14 : ((Rows.rulesBackRow.ifaces == (Tryz.f5.params.toList ++ Rows.rulesBackSpec.plain.varTypes Tryz.pinned.checked.prog).any (Tryz.pinned.checked.prog.ifacesRec ·))) = true := by kernel_rfl
theorem rulesBack_j15 : ((Rows.rulesBackRow.mapsOut == Tryz.pinned.checked.prog.mapsAmong Tryz.f5.resultTypes.toList)) = true := by kernel_rfl
theorem rulesBack_j16 : ((Rows.rulesBackRow.loops == (Tryz.f5.params.toList ++ Rows.rulesBackSpec.plain.varTypes Tryz.pinned.checked.prog).any (Tryz.pinned.checked.prog.loopsFrom ·))) = true := by kernel_rfl
theorem rulesBack_j17 : ((Rows.rulesBackRow.wideKeys == (Tryz.f5.params.toList ++ Rows.rulesBackSpec.plain.varTypes Tryz.pinned.checked.prog ++ Tryz.f5.resultTypes.toList).any (Tryz.pinned.checked.prog.wideKeysFrom ·))) = true := by kernel_rfl
theorem rulesBack_j18 : (Rows.rulesBackSpec.vars.all (Tryz.pinned.checked.prog.varReadable ·)) = true := by kernel_rfl
theorem rulesBack_j19 : (Tryz.f5.resultTypes.all (fun t => Tryz.pinned.checked.prog.readableRec t && decide (t < Tryz.pinned.checked.prog.types.size))) = true := by kernel_rfl
theorem rulesBack_j20 : ((Rows.rulesBackRow.ifacesOut == Tryz.f5.resultTypes.toList.any (Tryz.pinned.checked.prog.ifacesRec ·))) = true := by kernel_rfl
theorem rulesBack_j21 : ((Rows.rulesBackRow.loopsOut == Tryz.f5.resultTypes.toList.any (Tryz.pinned.checked.prog.loopsFrom ·))) = true := by kernel_rfl
theorem rulesBack_j23 : (Rows.rulesBackRow.shortTexts.isNone) = true := by kernel_rfl
theorem rulesBack_j28 : ((Rows.rulesBackRow.kinds == (if Rows.rulesBackRow.domain.isEmpty then [] else Tryz.f5.params.toList.map fun t => match Tryz.pinned.checked.prog.underlying t with | some (.int k) => some k | _ => none))) = true := by kernel_rfl
theorem rulesBack_j29 : ((Rows.rulesBackRow.pinned == Rows.rulesBackRow.pinnedBy)) = true := by kernel_rfl
theorem rulesBack_j30 : ((Rows.rulesBackRow.veiled == (Tryz.f5.params.toList ++ Rows.rulesBackSpec.plain.varTypes Tryz.pinned.checked.prog ++ Tryz.f5.resultTypes.toList).any (Tryz.pinned.checked.prog.veiledRec ·))) = true := by kernel_rfl
theorem rulesBack_j31 : (Rows.rulesBackRow.veiledFits Tryz.pinned.checked.prog Tryz.f5.params.toList (Tryz.f5.params.toList ++ Rows.rulesBackSpec.plain.varTypes Tryz.pinned.checked.prog ++ Tryz.f5.resultTypes.toList)) = true := by kernel_rfl
set_option maxRecDepth 100000 in
theorem rulesBack_closed : joinedFacts Tryz.pinned.checked.prog 5 Tryz.f5 Rows.rulesBackSpec Rows.rulesBackRow = true := by
  unfold joinedFacts
  exact aT (aT (aT (aT (aT (aT (aT (aT (aT (aT (aT (aT (aT (aT (aT (aT (aT (aT (aT (aT (aT (aT (aT (aT (aT (aT (aT (aT (aT (aT (aT (rulesBack_j0) js_1) js_2) rulesBack_j3) rulesBack_j4) rulesBack_j5) rulesBack_j6) rulesBack_j7) rulesBack_j8) rulesBack_j9) rulesBack_j10) rulesBack_j11) rulesBack_j12) rulesBack_j13) rulesBack_j14) rulesBack_j15) rulesBack_j16) rulesBack_j17) rulesBack_j18) rulesBack_j19) rulesBack_j20) rulesBack_j21) js_22) rulesBack_j23) js_24) js_25) js_26) js_27) rulesBack_j28) rulesBack_j29) rulesBack_j30) rulesBack_j31
theorem rulesBack_wrap : (Tryz.f5).isWrapper Tryz.pinned.checked.prog Rows.rulesBackRow.wrapper Rows.rulesBackRow.mainSum := by
  unfold Func.isWrapper; rw [if_neg (of_decide_eq_false (by kernel_rfl))]; exact ⟨rfl, rfl⟩
theorem rulesBack_inst : (Tryz.f5).isInstance Tryz.pinned.checked.prog Rows.rulesBackRow.origin Rows.rulesBackRow.targs := of_decide_eq_true (by kernel_rfl)
theorem rulesBack_fn : Tryz.pinned.checked.prog.funcNamed Rows.rulesBackRow.func = some 5 := by kernel_rfl
theorem rulesBack_holds : Rows.RulesBackSaid :=
  OpenClaim.holds_of_wide 5 Tryz.f5 rfl rfl rfl rfl rfl rfl rfl ⟨rfl, rfl, rfl, rfl, rfl⟩ rfl rfl rfl rfl rfl rulesBack_fn Tryz.func5 rulesBack_closed rulesBack_inst rulesBack_wrap
    (fun os started H enc _ => rulesBack_lifted os started H enc)

end Go.Proofs.YtkojlembanldcaaGreat
