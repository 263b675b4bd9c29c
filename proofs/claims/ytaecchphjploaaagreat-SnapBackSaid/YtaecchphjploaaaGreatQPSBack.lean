/- For every two views and every bytes the call of homesteadlaw20.SnapBack returns true, and its arguments read as they did. No conditions. -/
import Derived.Test.YtaecchphjploaaaGreatRs
import Derived.Test.YtaecchphjploaaaGreatGv
import Derived.Test.YtaecchphjploaaaGreatGu
set_option linter.unusedSimpArgs false
set_option linter.unusedVariables false
namespace Go.Proofs.YtaecchphjploaaaGreat
open Go Go.RowKit Eng

set_option maxRecDepth 100000 in
theorem snapBack_lifted (os : Os) (started : os.Started) (H : Type) (enc : TypeId × Value → H) :
  ReturnsInHanded {} Tryz.checked os 8 .any (Rows.snapBackSpec.pre6 enc Tryz.prog Tryz.f8 Rows.snapBackRow.domain false) (Rows.snapBackSpec.post enc Tryz.prog Tryz.f8 false true false false) := by
 refine lifted_true (C := Tryz.checked) (boolT := 4) P_own started (by kernel_rfl) Tryz.func8 P_laid (of_decide_eq_true (by kernel_rfl)) rfl boolUn rfl ?_
  (ChangeSpec.witness6 (enc := enc) (C := Tryz.checked) false ⟨#[], #[.agg #[.int .i64 0, .int .i64 0, .int .i64 0, .int .i64 0, .slice none 0 0, .int .i64 0, .slice none 0 0, .bool false, .slice none 0 0, .slice none 0 0], .agg #[.int .i64 0, .int .i64 0, .int .i64 0, .int .i64 0, .slice none 0 0, .int .i64 0, .slice none 0 0, .bool false, .slice none 0 0, .slice none 0 0], .slice none 0 0], []⟩ 8 (by kernel_rfl) (by kernel_rfl) (by kernel_rfl) (by kernel_rfl))
  (args_cons ag_view (args_cons ag_view (args_cons ag_bytesS (args_nil _)))) ?_
 ·intro ds hd
  match ds, hd with
  | [d1, d2, d3], _ => rfl
 ·rintro ⟨a, b, c, _⟩ ⟨ha, hb, hc, _⟩
  exact sback_api a b c ha.okV hb.okV hc.1

theorem snapBack_j0 : (Rows.snapBackRow.wf (OpenSpec.ofChange Rows.snapBackSpec)) = true := by kernel_rfl
theorem snapBack_j3 : (Tryz.f8.params.all (Tryz.pinned.checked.prog.readableRec ·)) = true := by kernel_rfl
theorem snapBack_j4 : (namedTie Tryz.pinned.checked.prog Rows.snapBackRow.named Rows.snapBackSpec.vars) = true := by kernel_rfl
theorem snapBack_j5 : ((Rows.snapBackRow.stops == [])) = true := by kernel_rfl
theorem snapBack_j6 : ((Tryz.pinned.checked.prog.stops == [])) = true := by kernel_rfl
theorem snapBack_j7 : ((Rows.snapBackRow.knobs == [])) = true := by kernel_rfl
theorem snapBack_j8 : ((Tryz.pinned.checked.prog.stopKnobs == [])) = true := by kernel_rfl
theorem snapBack_j9 : ((Rows.snapBackRow.inPlace == Tryz.pinned.checked.prog.inPlace 8)) = true := by kernel_rfl
theorem snapBack_j10 : ((Rows.snapBackRow.unfollowed == Tryz.pinned.checked.prog.unfollowed 8)) = true := by kernel_rfl
theorem snapBack_j11 : ((Rows.snapBackRow.recurses == Tryz.pinned.checked.prog.recurses 8)) = true := by kernel_rfl
theorem snapBack_j12 : ((Rows.snapBackRow.named == Tryz.pinned.checked.prog.varsNamed 8)) = true := by kernel_rfl
theorem snapBack_j13 : ((Rows.snapBackRow.maps == (Tryz.f8.params.toList ++ Rows.snapBackSpec.plain.varTypes Tryz.pinned.checked.prog).any (Tryz.pinned.checked.prog.mapsRec ·))) = true := by kernel_rfl
theorem snapBack_j14 : ((Rows.snapBackRow.ifaces == (Tryz.f8.params.toList ++ Rows.snapBackSpec.plain.varTypes Tryz.pinned.checked.prog).any (Tryz.pinned.checked.prog.ifacesRec ·))) = true := by kernel_rfl
theorem snapBack_j15 : ((Rows.snapBackRow.mapsOut == Tryz.pinned.checked.prog.mapsAmong Tryz.f8.resultTypes.toList)) = true := by kernel_rfl
theorem snapBack_j16 : ((Rows.snapBackRow.loops == (Tryz.f8.params.toList ++ Rows.snapBackSpec.plain.varTypes Tryz.pinned.checked.prog).any (Tryz.pinned.checked.prog.loopsFrom ·))) = true := by kernel_rfl
theorem snapBack_j17 : ((Rows.snapBackRow.wideKeys == (Tryz.f8.params.toList ++ Rows.snapBackSpec.plain.varTypes Tryz.pinned.checked.prog ++ Tryz.f8.resultTypes.toList).any (Tryz.pinned.checked.prog.wideKeysFrom ·))) = true := by kernel_rfl
theorem snapBack_j18 : (Rows.snapBackSpec.vars.all (Tryz.pinned.checked.prog.varReadable ·)) = true := by kernel_rfl
theorem snapBack_j19 : (Tryz.f8.resultTypes.all (fun t => Tryz.pinned.checked.prog.readableRec t && decide (t < Tryz.pinned.checked.prog.types.size))) = true := by kernel_rfl
theorem snapBack_j20 : ((Rows.snapBackRow.ifacesOut == Tryz.f8.resultTypes.toList.any (Tryz.pinned.checked.prog.ifacesRec ·))) = true := by kernel_rfl
theorem snapBack_j21 : ((Rows.snapBackRow.loopsOut == Tryz.f8.resultTypes.toList.any (Tryz.pinned.checked.prog.loopsFrom ·))) = true := by kernel_rfl
theorem snapBack_j23 : (Rows.snapBackRow.shortTexts.isNone) = true := by kernel_rfl
theorem snapBack_j28 : ((Rows.snapBackRow.kinds == (if Rows.snapBackRow.domain.isEmpty then [] else Tryz.f8.params.toList.map fun t => match Tryz.pinned.checked.prog.underlying t with | some (.int k) => some k | _ => none))) = true := by kernel_rfl
theorem snapBack_j29 : ((Rows.snapBackRow.pinned == Rows.snapBackRow.pinnedBy)) = true := by kernel_rfl
theorem snapBack_j30 : ((Rows.snapBackRow.veiled == (Tryz.f8.params.toList ++ Rows.snapBackSpec.plain.varTypes Tryz.pinned.checked.prog ++ Tryz.f8.resultTypes.toList).any (Tryz.pinned.checked.prog.veiledRec ·))) = true := by kernel_rfl
theorem snapBack_j31 : (Rows.snapBackRow.veiledFits Tryz.pinned.checked.prog Tryz.f8.params.toList (Tryz.f8.params.toList ++ Rows.snapBackSpec.plain.varTypes Tryz.pinned.checked.prog ++ Tryz.f8.resultTypes.toList)) = true := by kernel_rfl
set_option maxRecDepth 100000 in
theorem snapBack_closed : joinedFacts Tryz.pinned.checked.prog 8 Tryz.f8 Rows.snapBackSpec Rows.snapBackRow = true := by
 unfold joinedFacts
 exact aT (aT (aT (aT (aT (aT (aT (aT (aT (aT (aT (aT (aT (aT (aT (aT (aT (aT (aT (aT (aT (aT (aT (aT (aT (aT (aT (aT (aT (aT (aT (snapBack_j0) js_1) js_2) snapBack_j3) snapBack_j4) snapBack_j5) snapBack_j6) snapBack_j7) snapBack_j8) snapBack_j9) snapBack_j10) snapBack_j11) snapBack_j12) snapBack_j13) snapBack_j14) snapBack_j15) snapBack_j16) snapBack_j17) snapBack_j18) snapBack_j19) snapBack_j20) snapBack_j21) js_22) snapBack_j23) js_24) js_25) js_26) js_27) snapBack_j28) snapBack_j29) snapBack_j30) snapBack_j31
theorem snapBack_wrap : (Tryz.f8).isWrapper Tryz.pinned.checked.prog Rows.snapBackRow.wrapper Rows.snapBackRow.mainSum := by
 unfold Func.isWrapper; rw [if_neg (of_decide_eq_false (by kernel_rfl))]; exact ⟨rfl, rfl⟩
theorem snapBack_inst : (Tryz.f8).isInstance Tryz.pinned.checked.prog Rows.snapBackRow.origin Rows.snapBackRow.targs := of_decide_eq_true (by kernel_rfl)
theorem snapBack_fn : Tryz.pinned.checked.prog.funcNamed Rows.snapBackRow.func = some 8 := by kernel_rfl
theorem snapBack_holds : Rows.SnapBackSaid :=
 OpenClaim.holds_of_wide 8 Tryz.f8 rfl rfl rfl rfl rfl rfl rfl ⟨rfl, rfl, rfl, rfl, rfl⟩ rfl rfl rfl rfl rfl snapBack_fn Tryz.func8 snapBack_closed snapBack_inst snapBack_wrap
  (fun os started H enc _ => snapBack_lifted os started H enc)

end Go.Proofs.YtaecchphjploaaaGreat
