/- RulesTell: the rules and their reference say the same, in the stated form. -/
import Derived.Test.YtkojlembanldcaaGreatSd
import Derived.Test.YtkojlembanldcaaGreatGe
import Derived.Test.YtkojlembanldcaaGreatRd
import Derived.Test.YtkojlembanldcaaGreatGk
set_option linter.unusedSimpArgs false
set_option linter.unusedVariables false
namespace Go.Proofs.YtkojlembanldcaaGreat
open Go Go.RowKit Eng

set_option maxRecDepth 100000 in
theorem rulesTell_lifted (os : Os) (started : os.Started) (H : Type) (enc : TypeId × Value → H) :
  ReturnsInHanded {} Tryz.checked os 8 .any (Rows.rulesTellSpec.pre6 enc Tryz.prog Tryz.f8 Rows.rulesTellRow.domain false) (Rows.rulesTellSpec.post enc Tryz.prog Tryz.f8 false true false false) := by
 refine lifted_true (C := Tryz.checked) (boolT := 4) P_own started (by kernel_rfl) Tryz.func8 P_laid (of_decide_eq_true (by kernel_rfl)) rfl boolUn rfl ?_
  (ChangeSpec.witness6 (enc := enc) (C := Tryz.checked) false ⟨#[], #[.agg #[.int .i64 0, .int .u64 0, .int .i64 0, .slice none 0 0, .slice none 0 0], .slice none 0 0], []⟩ 8 (by kernel_rfl) (by kernel_rfl) (by kernel_rfl) (by kernel_rfl))
  (args_cons ag_world (args_cons ag_doos (args_nil _))) ?_
 ·intro ds hd
  match ds, hd with
  | [d1, d2], _ => rfl
 ·rintro ⟨w, l, _⟩ ⟨hw, hl, _⟩
  exact rtell_api w l hw.okW hl.2 (fun o ho => (hl.1 o ho).ok)

theorem rulesTell_j0 : (Rows.rulesTellRow.wf (OpenSpec.ofChange Rows.rulesTellSpec)) = true := by kernel_rfl
theorem rulesTell_j3 : (Tryz.f8.params.all (Tryz.pinned.checked.prog.readableRec ·)) = true := by kernel_rfl
theorem rulesTell_j4 : (namedTie Tryz.pinned.checked.prog Rows.rulesTellRow.named Rows.rulesTellSpec.vars) = true := by kernel_rfl
theorem rulesTell_j5 : ((Rows.rulesTellRow.stops == [])) = true := by kernel_rfl
theorem rulesTell_j6 : ((Tryz.pinned.checked.prog.stops == [])) = true := by kernel_rfl
theorem rulesTell_j7 : ((Rows.rulesTellRow.knobs == [])) = true := by kernel_rfl
theorem rulesTell_j8 : ((Tryz.pinned.checked.prog.stopKnobs == [])) = true := by kernel_rfl
theorem rulesTell_j9 : ((Rows.rulesTellRow.inPlace == Tryz.pinned.checked.prog.inPlace 8)) = true := by kernel_rfl
theorem rulesTell_j10 : ((Rows.rulesTellRow.unfollowed == Tryz.pinned.checked.prog.unfollowed 8)) = true := by kernel_rfl
theorem rulesTell_j11 : ((Rows.rulesTellRow.recurses == Tryz.pinned.checked.prog.recurses 8)) = true := by kernel_rfl
theorem rulesTell_j12 : ((Rows.rulesTellRow.named == Tryz.pinned.checked.prog.varsNamed 8)) = true := by kernel_rfl
theorem rulesTell_j13 : ((Rows.rulesTellRow.maps == (Tryz.f8.params.toList ++ Rows.rulesTellSpec.plain.varTypes Tryz.pinned.checked.prog).any (Tryz.pinned.checked.prog.mapsRec ·))) = true := by kernel_rfl
theorem rulesTell_j14 : ((Rows.rulesTellRow.ifaces == (Tryz.f8.params.toList ++ Rows.rulesTellSpec.plain.varTypes Tryz.pinned.checked.prog).any (Tryz.pinned.checked.prog.ifacesRec ·))) = true := by kernel_rfl
theorem rulesTell_j15 : ((Rows.rulesTellRow.mapsOut == Tryz.pinned.checked.prog.mapsAmong Tryz.f8.resultTypes.toList)) = true := by kernel_rfl
theorem rulesTell_j16 : ((Rows.rulesTellRow.loops == (Tryz.f8.params.toList ++ Rows.rulesTellSpec.plain.varTypes Tryz.pinned.checked.prog).any (Tryz.pinned.checked.prog.loopsFrom ·))) = true := by kernel_rfl
theorem rulesTell_j17 : ((Rows.rulesTellRow.wideKeys == (Tryz.f8.params.toList ++ Rows.rulesTellSpec.plain.varTypes Tryz.pinned.checked.prog ++ Tryz.f8.resultTypes.toList).any (Tryz.pinned.checked.prog.wideKeysFrom ·))) = true := by kernel_rfl
theorem rulesTell_j18 : (Rows.rulesTellSpec.vars.all (Tryz.pinned.checked.prog.varReadable ·)) = true := by kernel_rfl
theorem rulesTell_j19 : (Tryz.f8.resultTypes.all (fun t => Tryz.pinned.checked.prog.readableRec t && decide (t < Tryz.pinned.checked.prog.types.size))) = true := by kernel_rfl
theorem rulesTell_j20 : ((Rows.rulesTellRow.ifacesOut == Tryz.f8.resultTypes.toList.any (Tryz.pinned.checked.prog.ifacesRec ·))) = true := by kernel_rfl
theorem rulesTell_j21 : ((Rows.rulesTellRow.loopsOut == Tryz.f8.resultTypes.toList.any (Tryz.pinned.checked.prog.loopsFrom ·))) = true := by kernel_rfl
theorem rulesTell_j23 : (Rows.rulesTellRow.shortTexts.isNone) = true := by kernel_rfl
theorem rulesTell_j28 : ((Rows.rulesTellRow.kinds == (if Rows.rulesTellRow.domain.isEmpty then [] else Tryz.f8.params.toList.map fun t => match Tryz.pinned.checked.prog.underlying t with | some (.int k) => some k | _ => none))) = true := by kernel_rfl
theorem rulesTell_j29 : ((Rows.rulesTellRow.pinned == Rows.rulesTellRow.pinnedBy)) = true := by kernel_rfl
theorem rulesTell_j30 : ((Rows.rulesTellRow.veiled == (Tryz.f8.params.toList ++ Rows.rulesTellSpec.plain.varTypes Tryz.pinned.checked.prog ++ Tryz.f8.resultTypes.toList).any (Tryz.pinned.checked.prog.veiledRec ·))) = true := by kernel_rfl
theorem rulesTell_j31 : (Rows.rulesTellRow.veiledFits Tryz.pinned.checked.prog Tryz.f8.params.toList (Tryz.f8.params.toList ++ Rows.rulesTellSpec.plain.varTypes Tryz.pinned.checked.prog ++ Tryz.f8.resultTypes.toList)) = true := by kernel_rfl
set_option maxRecDepth 100000 in
theorem rulesTell_closed : joinedFacts Tryz.pinned.checked.prog 8 Tryz.f8 Rows.rulesTellSpec Rows.rulesTellRow = true := by
 unfold joinedFacts
 exact aT (aT (aT (aT (aT (aT (aT (aT (aT (aT (aT (aT (aT (aT (aT (aT (aT (aT (aT (aT (aT (aT (aT (aT (aT (aT (aT (aT (aT (aT (aT (rulesTell_j0) js_1) js_2) rulesTell_j3) rulesTell_j4) rulesTell_j5) rulesTell_j6) rulesTell_j7) rulesTell_j8) rulesTell_j9) rulesTell_j10) rulesTell_j11) rulesTell_j12) rulesTell_j13) rulesTell_j14) rulesTell_j15) rulesTell_j16) rulesTell_j17) rulesTell_j18) rulesTell_j19) rulesTell_j20) rulesTell_j21) js_22) rulesTell_j23) js_24) js_25) js_26) js_27) rulesTell_j28) rulesTell_j29) rulesTell_j30) rulesTell_j31
theorem rulesTell_wrap : (Tryz.f8).isWrapper Tryz.pinned.checked.prog Rows.rulesTellRow.wrapper Rows.rulesTellRow.mainSum := by
 unfold Func.isWrapper; rw [if_neg (of_decide_eq_false (by kernel_rfl))]; exact ⟨rfl, rfl⟩
theorem rulesTell_inst : (Tryz.f8).isInstance Tryz.pinned.checked.prog Rows.rulesTellRow.origin Rows.rulesTellRow.targs := of_decide_eq_true (by kernel_rfl)
theorem rulesTell_fn : Tryz.pinned.checked.prog.funcNamed Rows.rulesTellRow.func = some 8 := by kernel_rfl
theorem rulesTell_holds : Rows.RulesTellSaid :=
 OpenClaim.holds_of_wide 8 Tryz.f8 rfl rfl rfl rfl rfl rfl rfl ⟨rfl, rfl, rfl, rfl, rfl⟩ rfl rfl rfl rfl rfl rulesTell_fn Tryz.func8 rulesTell_closed rulesTell_inst rulesTell_wrap
  (fun os started H enc _ => rulesTell_lifted os started H enc)

end Go.Proofs.YtkojlembanldcaaGreat
