/- TickTells: ticks and their reference say the same, in the stated form. -/
import Derived.Test.YtkojlembanldcaaGreatSf
import Derived.Test.YtkojlembanldcaaGreatGe
import Derived.Test.YtkojlembanldcaaGreatRd
import Derived.Test.YtkojlembanldcaaGreatGk
set_option linter.unusedSimpArgs false
set_option linter.unusedVariables false
namespace Go.Proofs.YtkojlembanldcaaGreat
open Go Go.RowKit Eng

set_option maxRecDepth 100000 in
theorem tickTells_lifted (os : Os) (started : os.Started) (H : Type) (enc : TypeId × Value → H) :
  ReturnsInHanded {} Tryz.checked os 10 .any (Rows.tickTellsSpec.pre6 enc Tryz.prog Tryz.f10 Rows.tickTellsRow.domain false) (Rows.tickTellsSpec.post enc Tryz.prog Tryz.f10 false true false false) := by
 refine lifted_true (C := Tryz.checked) (boolT := 4) P_own started (by kernel_rfl) Tryz.func10 P_laid (of_decide_eq_true (by kernel_rfl)) rfl boolUn rfl ?_
  (ChangeSpec.witness6 (enc := enc) (C := Tryz.checked) false ⟨#[], #[.agg #[.int .i64 0, .int .u64 0, .int .i64 0, .slice none 0 0, .slice none 0 0], .slice none 0 0, .int .u8 0], []⟩ 8 (by kernel_rfl) (by kernel_rfl) (by kernel_rfl) (by kernel_rfl))
  (args_cons ag_world (args_cons ag_orders (args_cons ag_u8 (args_nil _)))) ?_
 ·intro ds hd
  match ds, hd with
  | [d1, d2, d3], _ => rfl
 ·rintro ⟨w, l, n, _⟩ ⟨hw, hl, hn, _⟩
  exact ttell_api w l n hw.okW (by have h : l.length * 56 ≤ 140737488351232 := hl.2; omega) (fun o ho => ⟨(hl.1 o ho).1.2, (hl.1 o ho).2.2.1.1, (hl.1 o ho).2.2.1.2⟩) hn

theorem tickTells_j0 : (Rows.tickTellsRow.wf (OpenSpec.ofChange Rows.tickTellsSpec)) = true := by kernel_rfl
theorem tickTells_j3 : (Tryz.f10.params.all (Tryz.pinned.checked.prog.readableRec ·)) = true := by kernel_rfl
theorem tickTells_j4 : (namedTie Tryz.pinned.checked.prog Rows.tickTellsRow.named Rows.tickTellsSpec.vars) = true := by kernel_rfl
theorem tickTells_j5 : ((Rows.tickTellsRow.stops == [])) = true := by kernel_rfl
theorem tickTells_j6 : ((Tryz.pinned.checked.prog.stops == [])) = true := by kernel_rfl
theorem tickTells_j7 : ((Rows.tickTellsRow.knobs == [])) = true := by kernel_rfl
theorem tickTells_j8 : ((Tryz.pinned.checked.prog.stopKnobs == [])) = true := by kernel_rfl
theorem tickTells_j9 : ((Rows.tickTellsRow.inPlace == Tryz.pinned.checked.prog.inPlace 10)) = true := by kernel_rfl
theorem tickTells_j10 : ((Rows.tickTellsRow.unfollowed == Tryz.pinned.checked.prog.unfollowed 10)) = true := by kernel_rfl
theorem tickTells_j11 : ((Rows.tickTellsRow.recurses == Tryz.pinned.checked.prog.recurses 10)) = true := by kernel_rfl
theorem tickTells_j12 : ((Rows.tickTellsRow.named == Tryz.pinned.checked.prog.varsNamed 10)) = true := by kernel_rfl
theorem tickTells_j13 : ((Rows.tickTellsRow.maps == (Tryz.f10.params.toList ++ Rows.tickTellsSpec.plain.varTypes Tryz.pinned.checked.prog).any (Tryz.pinned.checked.prog.mapsRec ·))) = true := by kernel_rfl
theorem tickTells_j14 : ((Rows.tickTellsRow.ifaces == (Tryz.f10.params.toList ++ Rows.tickTellsSpec.plain.varTypes Tryz.pinned.checked.prog).any (Tryz.pinned.checked.prog.ifacesRec ·))) = true := by kernel_rfl
theorem tickTells_j15 : ((Rows.tickTellsRow.mapsOut == Tryz.pinned.checked.prog.mapsAmong Tryz.f10.resultTypes.toList)) = true := by kernel_rfl
theorem tickTells_j16 : ((Rows.tickTellsRow.loops == (Tryz.f10.params.toList ++ Rows.tickTellsSpec.plain.varTypes Tryz.pinned.checked.prog).any (Tryz.pinned.checked.prog.loopsFrom ·))) = true := by kernel_rfl
theorem tickTells_j17 : ((Rows.tickTellsRow.wideKeys == (Tryz.f10.params.toList ++ Rows.tickTellsSpec.plain.varTypes Tryz.pinned.checked.prog ++ Tryz.f10.resultTypes.toList).any (Tryz.pinned.checked.prog.wideKeysFrom ·))) = true := by kernel_rfl
theorem tickTells_j18 : (Rows.tickTellsSpec.vars.all (Tryz.pinned.checked.prog.varReadable ·)) = true := by kernel_rfl
theorem tickTells_j19 : (Tryz.f10.resultTypes.all (fun t => Tryz.pinned.checked.prog.readableRec t && decide (t < Tryz.pinned.checked.prog.types.size))) = true := by kernel_rfl
theorem tickTells_j20 : ((Rows.tickTellsRow.ifacesOut == Tryz.f10.resultTypes.toList.any (Tryz.pinned.checked.prog.ifacesRec ·))) = true := by kernel_rfl
theorem tickTells_j21 : ((Rows.tickTellsRow.loopsOut == Tryz.f10.resultTypes.toList.any (Tryz.pinned.checked.prog.loopsFrom ·))) = true := by kernel_rfl
theorem tickTells_j23 : (Rows.tickTellsRow.shortTexts.isNone) = true := by kernel_rfl
theorem tickTells_j28 : ((Rows.tickTellsRow.kinds == (if Rows.tickTellsRow.domain.isEmpty then [] else Tryz.f10.params.toList.map fun t => match Tryz.pinned.checked.prog.underlying t with | some (.int k) => some k | _ => none))) = true := by kernel_rfl
theorem tickTells_j29 : ((Rows.tickTellsRow.pinned == Rows.tickTellsRow.pinnedBy)) = true := by kernel_rfl
theorem tickTells_j30 : ((Rows.tickTellsRow.veiled == (Tryz.f10.params.toList ++ Rows.tickTellsSpec.plain.varTypes Tryz.pinned.checked.prog ++ Tryz.f10.resultTypes.toList).any (Tryz.pinned.checked.prog.veiledRec ·))) = true := by kernel_rfl
theorem tickTells_j31 : (Rows.tickTellsRow.veiledFits Tryz.pinned.checked.prog Tryz.f10.params.toList (Tryz.f10.params.toList ++ Rows.tickTellsSpec.plain.varTypes Tryz.pinned.checked.prog ++ Tryz.f10.resultTypes.toList)) = true := by kernel_rfl
set_option maxRecDepth 100000 in
theorem tickTells_closed : joinedFacts Tryz.pinned.checked.prog 10 Tryz.f10 Rows.tickTellsSpec Rows.tickTellsRow = true := by
 unfold joinedFacts
 exact aT (aT (aT (aT (aT (aT (aT (aT (aT (aT (aT (aT (aT (aT (aT (aT (aT (aT (aT (aT (aT (aT (aT (aT (aT (aT (aT (aT (aT (aT (aT (tickTells_j0) js_1) js_2) tickTells_j3) tickTells_j4) tickTells_j5) tickTells_j6) tickTells_j7) tickTells_j8) tickTells_j9) tickTells_j10) tickTells_j11) tickTells_j12) tickTells_j13) tickTells_j14) tickTells_j15) tickTells_j16) tickTells_j17) tickTells_j18) tickTells_j19) tickTells_j20) tickTells_j21) js_22) tickTells_j23) js_24) js_25) js_26) js_27) tickTells_j28) tickTells_j29) tickTells_j30) tickTells_j31
theorem tickTells_wrap : (Tryz.f10).isWrapper Tryz.pinned.checked.prog Rows.tickTellsRow.wrapper Rows.tickTellsRow.mainSum := by
 unfold Func.isWrapper; rw [if_neg (of_decide_eq_false (by kernel_rfl))]; exact ⟨rfl, rfl⟩
theorem tickTells_inst : (Tryz.f10).isInstance Tryz.pinned.checked.prog Rows.tickTellsRow.origin Rows.tickTellsRow.targs := of_decide_eq_true (by kernel_rfl)
theorem tickTells_fn : Tryz.pinned.checked.prog.funcNamed Rows.tickTellsRow.func = some 10 := by kernel_rfl
theorem tickTells_holds : Rows.TickTellsSaid :=
 OpenClaim.holds_of_wide 10 Tryz.f10 rfl rfl rfl rfl rfl rfl rfl ⟨rfl, rfl, rfl, rfl, rfl⟩ rfl rfl rfl rfl rfl tickTells_fn Tryz.func10 tickTells_closed tickTells_inst tickTells_wrap
  (fun os started H enc _ => tickTells_lifted os started H enc)

end Go.Proofs.YtkojlembanldcaaGreat
