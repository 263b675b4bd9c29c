/- RulesFar: what a command may change lies within reach, in the stated form. -/
import Derived.Test.YtkojlembanldcaaGreatRk
import Derived.Test.YtkojlembanldcaaGreatGe
import Derived.Test.YtkojlembanldcaaGreatRd
import Derived.Test.YtkojlembanldcaaGreatGk
set_option linter.unusedSimpArgs false
set_option linter.unusedVariables false
namespace Go.Proofs.YtkojlembanldcaaGreat
open Go Go.RowKit Eng

set_option maxRecDepth 100000 in
theorem rulesFar_lifted (os : Os) (started : os.Started) (H : Type) (enc : TypeId × Value → H) :
    ReturnsInHanded {} Tryz.checked os 4 .any (Rows.rulesFarSpec.pre6 enc Tryz.prog Tryz.f4 Rows.rulesFarRow.domain false) (Rows.rulesFarSpec.post enc Tryz.prog Tryz.f4 false true false false) := by
  refine lifted_true (C := Tryz.checked) (boolT := 4) P_own started (by kernel_rfl) Tryz.func4 P_laid (of_decide_eq_true (by kernel_rfl)) rfl boolUn rfl ?_
    (ChangeSpec.witness6 (enc := enc) (C := Tryz.checked) false ⟨#[], #[.agg #[.int .i64 0, .int .u64 0, .int .i64 0, .slice none 0 0, .slice none 0 0], .agg #[.int .i64 0, .int .u8 0, .int .i64 0, .int .i64 0, .int .i64 0, .int .i64 0], .agg #[.int .i64 0, .int .i64 0]], []⟩ 8 (by kernel_rfl) (by kernel_rfl) (by kernel_rfl) (by kernel_rfl))
    (args_cons ag_world (args_cons ag_doo (args_cons ag_2int (args_nil _)))) ?_
  · intro ds hd
    match ds, hd with
    | [d1, d2, d3], _ => rfl
  · rintro ⟨w, d, p, _⟩ ⟨hw, hd, _, _⟩
    exact rfar_api w d.id d.cmd p.1 p.2 hw.okW hd.ok.1 hd.ok.2

theorem rulesFar_j0 : (Rows.rulesFarRow.wf (OpenSpec.ofChange Rows.rulesFarSpec)) = true := by kernel_rfl
theorem rulesFar_j3 : (Tryz.f4.params.all (Tryz.pinned.checked.prog.readableRec ·)) = true := by kernel_rfl
theorem rulesFar_j4 : (namedTie Tryz.pinned.checked.prog Rows.rulesFarRow.named Rows.rulesFarSpec.vars) = true := by kernel_rfl
theorem rulesFar_j5 : ((Rows.rulesFarRow.stops == [])) = true := by kernel_rfl
theorem rulesFar_j6 : ((Tryz.pinned.checked.prog.stops == [])) = true := by kernel_rfl
theorem rulesFar_j7 : ((Rows.rulesFarRow.knobs == [])) = true := by kernel_rfl
theorem rulesFar_j8 : ((Tryz.pinned.checked.prog.stopKnobs == [])) = true := by kernel_rfl
theorem rulesFar_j9 : ((Rows.rulesFarRow.inPlace == Tryz.pinned.checked.prog.inPlace 4)) = true := by kernel_rfl
theorem rulesFar_j10 : ((Rows.rulesFarRow.unfollowed == Tryz.pinned.checked.prog.unfollowed 4)) = true := by kernel_rfl
theorem rulesFar_j11 : ((Rows.rulesFarRow.recurses == Tryz.pinned.checked.prog.recurses 4)) = true := by kernel_rfl
theorem rulesFar_j12 : ((Rows.rulesFarRow.named == Tryz.pinned.checked.prog.varsNamed 4)) = true := by kernel_rfl
theorem rulesFar_j13 : ((Rows.rulesFarRow.maps == (Tryz.f4.params.toList ++ Rows.rulesFarSpec.plain.varTypes Tryz.pinned.checked.prog).any (Tryz.pinned.checked.prog.mapsRec ·))) = true := by kernel_rfl
theorem rulesFar_j14 : ((Rows.rulesFarRow.ifaces == (Tryz.f4.params.toList ++ Rows.rulesFarSpec.plain.varTypes Tryz.pinned.checked.prog).any (Tryz.pinned.checked.prog.ifacesRec ·))) = true := by kernel_rfl
theorem rulesFar_j15 : ((Rows.rulesFarRow.mapsOut == Tryz.pinned.checked.prog.mapsAmong Tryz.f4.resultTypes.toList)) = true := by kernel_rfl
theorem rulesFar_j16 : ((Rows.rulesFarRow.loops == (Tryz.f4.params.toList ++ Rows.rulesFarSpec.plain.varTypes Tryz.pinned.checked.prog).any (Tryz.pinned.checked.prog.loopsFrom ·))) = true := by kernel_rfl
theorem rulesFar_j17 : ((Rows.rulesFarRow.wideKeys == (Tryz.f4.params.toList ++ Rows.rulesFarSpec.plain.varTypes Tryz.pinned.checked.prog ++ Tryz.f4.resultTypes.toList).any (Tryz.pinned.checked.prog.wideKeysFrom ·))) = true := by kernel_rfl
theorem rulesFar_j18 : (Rows.rulesFarSpec.vars.all (Tryz.pinned.checked.prog.varReadable ·)) = true := by kernel_rfl
theorem rulesFar_j19 : (Tryz.f4.resultTypes.all (fun t => Tryz.pinned.checked.prog.readableRec t && decide (t < Tryz.pinned.checked.prog.types.size))) = true := by kernel_rfl
theorem rulesFar_j20 : ((Rows.rulesFarRow.ifacesOut == Tryz.f4.resultTypes.toList.any (Tryz.pinned.checked.prog.ifacesRec ·))) = true := by kernel_rfl
theorem rulesFar_j21 : ((Rows.rulesFarRow.loopsOut == Tryz.f4.resultTypes.toList.any (Tryz.pinned.checked.prog.loopsFrom ·))) = true := by kernel_rfl
theorem rulesFar_j23 : (Rows.rulesFarRow.shortTexts.isNone) = true := by kernel_rfl
theorem rulesFar_j28 : ((Rows.rulesFarRow.kinds == (if Rows.rulesFarRow.domain.isEmpty then [] else Tryz.f4.params.toList.map fun t => match Tryz.pinned.checked.prog.underlying t with | some (.int k) => some k | _ => none))) = true := by kernel_rfl
theorem rulesFar_j29 : ((Rows.rulesFarRow.pinned == Rows.rulesFarRow.pinnedBy)) = true := by kernel_rfl
theorem rulesFar_j30 : ((Rows.rulesFarRow.veiled == (Tryz.f4.params.toList ++ Rows.rulesFarSpec.plain.varTypes Tryz.pinned.checked.prog ++ Tryz.f4.resultTypes.toList).any (Tryz.pinned.checked.prog.veiledRec ·))) = true := by kernel_rfl
theorem rulesFar_j31 : (Rows.rulesFarRow.veiledFits Tryz.pinned.checked.prog Tryz.f4.params.toList (Tryz.f4.params.toList ++ Rows.rulesFarSpec.plain.varTypes Tryz.pinned.checked.prog ++ Tryz.f4.resultTypes.toList)) = true := by kernel_rfl
set_option maxRecDepth 100000 in
theorem rulesFar_closed : joinedFacts Tryz.pinned.checked.prog 4 Tryz.f4 Rows.rulesFarSpec Rows.rulesFarRow = true := by
  unfold joinedFacts
  exact aT (aT (aT (aT (aT (aT (aT (aT (aT (aT (aT (aT (aT (aT (aT (aT (aT (aT (aT (aT (aT (aT (aT (aT (aT (aT (aT (aT (aT (aT (aT (rulesFar_j0) js_1) js_2) rulesFar_j3) rulesFar_j4) rulesFar_j5) rulesFar_j6) rulesFar_j7) rulesFar_j8) rulesFar_j9) rulesFar_j10) rulesFar_j11) rulesFar_j12) rulesFar_j13) rulesFar_j14) rulesFar_j15) rulesFar_j16) rulesFar_j17) rulesFar_j18) rulesFar_j19) rulesFar_j20) rulesFar_j21) js_22) rulesFar_j23) js_24) js_25) js_26) js_27) rulesFar_j28) rulesFar_j29) rulesFar_j30) rulesFar_j31
theorem rulesFar_wrap : (Tryz.f4).isWrapper Tryz.pinned.checked.prog Rows.rulesFarRow.wrapper Rows.rulesFarRow.mainSum := by
  unfold Func.isWrapper; rw [if_neg (of_decide_eq_false (by kernel_rfl))]; exact ⟨rfl, rfl⟩
theorem rulesFar_inst : (Tryz.f4).isInstance Tryz.pinned.checked.prog Rows.rulesFarRow.origin Rows.rulesFarRow.targs := of_decide_eq_true (by kernel_rfl)
theorem rulesFar_fn : Tryz.pinned.checked.prog.funcNamed Rows.rulesFarRow.func = some 4 := by kernel_rfl
theorem rulesFar_holds : Rows.RulesFarSaid :=
  OpenClaim.holds_of_wide 4 Tryz.f4 rfl rfl rfl rfl rfl rfl rfl ⟨rfl, rfl, rfl, rfl, rfl⟩ rfl rfl rfl rfl rfl rulesFar_fn Tryz.func4 rulesFar_closed rulesFar_inst rulesFar_wrap
    (fun os started H enc _ => rulesFar_lifted os started H enc)

end Go.Proofs.YtkojlembanldcaaGreat
