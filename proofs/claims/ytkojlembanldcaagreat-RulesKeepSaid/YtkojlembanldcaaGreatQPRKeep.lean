/- RulesKeep: a right world stays right; what is together changes by the deltas, in the stated form. -/
import Derived.Test.YtkojlembanldcaaGreatRd
import Derived.Test.YtkojlembanldcaaGreatGe
import Derived.Test.YtkojlembanldcaaGreatGk
set_option linter.unusedSimpArgs false
set_option linter.unusedVariables false
namespace Go.Proofs.YtkojlembanldcaaGreat
open Go Go.RowKit Eng

set_option maxRecDepth 100000 in
theorem rulesKeep_lifted (os : Os) (started : os.Started) (H : Type) (enc : TypeId × Value → H) :
    ReturnsInHanded {} Tryz.checked os 9 .any (Rows.rulesKeepSpec.pre6 enc Tryz.prog Tryz.f9 Rows.rulesKeepRow.domain false) (Rows.rulesKeepSpec.post enc Tryz.prog Tryz.f9 false true false false) := by
  refine lifted_true (C := Tryz.checked) (boolT := 4) P_own started (by kernel_rfl) Tryz.func9 P_laid (of_decide_eq_true (by kernel_rfl)) rfl boolUn rfl ?_
    (ChangeSpec.witness6 (enc := enc) (C := Tryz.checked) false ⟨#[], #[.agg #[.int .i64 0, .int .u64 0, .int .i64 0, .slice none 0 0, .slice none 0 0], .slice none 0 0], []⟩ 8 (by kernel_rfl) (by kernel_rfl) (by kernel_rfl) (by kernel_rfl))
    (args_cons ag_world (args_cons ag_doos (args_nil _))) ?_
  · intro ds hd
    match ds, hd with
    | [d1, d2], _ => rfl
  · rintro ⟨w, l, _⟩ ⟨hw, hl, _⟩
    exact rkeep_api w l hw.okW hl.2 (fun o ho => (hl.1 o ho).ok)

theorem rulesKeep_j0 : (Rows.rulesKeepRow.wf (OpenSpec.ofChange Rows.rulesKeepSpec)) = true := by kernel_rfl
theorem rulesKeep_j3 : (Tryz.f9.params.all (Tryz.pinned.checked.prog.readableRec ·)) = true := by kernel_rfl
theorem rulesKeep_j4 : (namedTie Tryz.pinned.checked.prog Rows.rulesKeepRow.named Rows.rulesKeepSpec.vars) = true := by kernel_rfl
theorem rulesKeep_j5 : ((Rows.rulesKeepRow.stops == [])) = true := by kernel_rfl
theorem rulesKeep_j6 : ((Tryz.pinned.checked.prog.stops == [])) = true := by kernel_rfl
theorem rulesKeep_j7 : ((Rows.rulesKeepRow.knobs == [])) = true := by kernel_rfl
theorem rulesKeep_j8 : ((Tryz.pinned.checked.prog.stopKnobs == [])) = true := by kernel_rfl
theorem rulesKeep_j9 : ((Rows.rulesKeepRow.inPlace == Tryz.pinned.checked.prog.inPlace 9)) = true := by kernel_rfl
theorem rulesKeep_j10 : ((Rows.rulesKeepRow.unfollowed == Tryz.pinned.checked.prog.unfollowed 9)) = true := by kernel_rfl
theorem rulesKeep_j11 : ((Rows.rulesKeepRow.recurses == Tryz.pinned.checked.prog.recurses 9)) = true := by kernel_rfl
theorem rulesKeep_j12 : ((Rows.rulesKeepRow.named == Tryz.pinned.checked.prog.varsNamed 9)) = true := by kernel_rfl
theorem rulesKeep_j13 : ((Rows.rulesKeepRow.maps == (Tryz.f9.params.toList ++ Rows.rulesKeepSpec.plain.varTypes Tryz.pinned.checked.prog).any (Tryz.pinned.checked.prog.mapsRec ·))) = true := by kernel_rfl
theorem rulesKeep_j14 : ((Rows.rulesKeepRow.ifaces == (Tryz.f9.params.toList ++ Rows.rulesKeepSpec.plain.varTypes Tryz.pinned.checked.prog).any (Tryz.pinned.checked.prog.ifacesRec ·))) = true := by kernel_rfl
theorem rulesKeep_j15 : ((Rows.rulesKeepRow.mapsOut == Tryz.pinned.checked.prog.mapsAmong Tryz.f9.resultTypes.toList)) = true := by kernel_rfl
theorem rulesKeep_j16 : ((Rows.rulesKeepRow.loops == (Tryz.f9.params.toList ++ Rows.rulesKeepSpec.plain.varTypes Tryz.pinned.checked.prog).any (Tryz.pinned.checked.prog.loopsFrom ·))) = true := by kernel_rfl
theorem rulesKeep_j17 : ((Rows.rulesKeepRow.wideKeys == (Tryz.f9.params.toList ++ Rows.rulesKeepSpec.plain.varTypes Tryz.pinned.checked.prog ++ Tryz.f9.resultTypes.toList).any (Tryz.pinned.checked.prog.wideKeysFrom ·))) = true := by kernel_rfl
theorem rulesKeep_j18 : (Rows.rulesKeepSpec.vars.all (Tryz.pinned.checked.prog.varReadable ·)) = true := by kernel_rfl
theorem rulesKeep_j19 : (Tryz.f9.resultTypes.all (fun t => Tryz.pinned.checked.prog.readableRec t && decide (t < Tryz.pinned.checked.prog.types.size))) = true := by kernel_rfl
theorem rulesKeep_j20 : ((Rows.rulesKeepRow.ifacesOut == Tryz.f9.resultTypes.toList.any (Tryz.pinned.checked.prog.ifacesRec ·))) = true := by kernel_rfl
theorem rulesKeep_j21 : ((Rows.rulesKeepRow.loopsOut == Tryz.f9.resultTypes.toList.any (Tryz.pinned.checked.prog.loopsFrom ·))) = true := by kernel_rfl
theorem rulesKeep_j23 : (Rows.rulesKeepRow.shortTexts.isNone) = true := by kernel_rfl
theorem rulesKeep_j28 : ((Rows.rulesKeepRow.kinds == (if Rows.rulesKeepRow.domain.isEmpty then [] else Tryz.f9.params.toList.map fun t => match Tryz.pinned.checked.prog.underlying t with | some (.int k) => some k | _ => none))) = true := by kernel_rfl
theorem rulesKeep_j29 : ((Rows.rulesKeepRow.pinned == Rows.rulesKeepRow.pinnedBy)) = true := by kernel_rfl
theorem rulesKeep_j30 : ((Rows.rulesKeepRow.veiled == (Tryz.f9.params.toList ++ Rows.rulesKeepSpec.plain.varTypes Tryz.pinned.checked.prog ++ Tryz.f9.resultTypes.toList).any (Tryz.pinned.checked.prog.veiledRec ·))) = true := by kernel_rfl
theorem rulesKeep_j31 : (Rows.rulesKeepRow.veiledFits Tryz.pinned.checked.prog Tryz.f9.params.toList (Tryz.f9.params.toList ++ Rows.rulesKeepSpec.plain.varTypes Tryz.pinned.checked.prog ++ Tryz.f9.resultTypes.toList)) = true := by kernel_rfl
set_option maxRecDepth 100000 in
theorem rulesKeep_closed : joinedFacts Tryz.pinned.checked.prog 9 Tryz.f9 Rows.rulesKeepSpec Rows.rulesKeepRow = true := by
  unfold joinedFacts
  exact aT (aT (aT (aT (aT (aT (aT (aT (aT (aT (aT (aT (aT (aT (aT (aT (aT (aT (aT (aT (aT (aT (aT (aT (aT (aT (aT (aT (aT (aT (aT (rulesKeep_j0) js_1) js_2) rulesKeep_j3) rulesKeep_j4) rulesKeep_j5) rulesKeep_j6) rulesKeep_j7) rulesKeep_j8) rulesKeep_j9) rulesKeep_j10) rulesKeep_j11) rulesKeep_j12) rulesKeep_j13) rulesKeep_j14) rulesKeep_j15) rulesKeep_j16) rulesKeep_j17) rulesKeep_j18) rulesKeep_j19) rulesKeep_j20) rulesKeep_j21) js_22) rulesKeep_j23) js_24) js_25) js_26) js_27) rulesKeep_j28) rulesKeep_j29) rulesKeep_j30) rulesKeep_j31
theorem rulesKeep_wrap : (Tryz.f9).isWrapper Tryz.pinned.checked.prog Rows.rulesKeepRow.wrapper Rows.rulesKeepRow.mainSum := by
  unfold Func.isWrapper; rw [if_neg (of_decide_eq_false (by kernel_rfl))]; exact ⟨rfl, rfl⟩
theorem rulesKeep_inst : (Tryz.f9).isInstance Tryz.pinned.checked.prog Rows.rulesKeepRow.origin Rows.rulesKeepRow.targs := of_decide_eq_true (by kernel_rfl)
theorem rulesKeep_fn : Tryz.pinned.checked.prog.funcNamed Rows.rulesKeepRow.func = some 9 := by kernel_rfl
theorem rulesKeep_holds : Rows.RulesKeepSaid :=
  OpenClaim.holds_of_wide 9 Tryz.f9 rfl rfl rfl rfl rfl rfl rfl ⟨rfl, rfl, rfl, rfl, rfl⟩ rfl rfl rfl rfl rfl rulesKeep_fn Tryz.func9 rulesKeep_closed rulesKeep_inst rulesKeep_wrap
    (fun os started H enc _ => rulesKeep_lifted os started H enc)

end Go.Proofs.YtkojlembanldcaaGreat
