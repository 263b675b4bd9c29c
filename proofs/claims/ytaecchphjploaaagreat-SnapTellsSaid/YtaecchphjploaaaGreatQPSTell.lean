/- For every two views and every bytes the call of homesteadlaw20.SnapTells returns true, and its arguments read as they did. No conditions. -/
import Derived.Test.YtaecchphjploaaaGreatRs
import Derived.Test.YtaecchphjploaaaGreatGu
import Derived.Test.YtaecchphjploaaaGreatGt
set_option linter.unusedSimpArgs false
set_option linter.unusedVariables false
namespace Go.Proofs.YtaecchphjploaaaGreat
open Go Go.RowKit Eng

set_option maxRecDepth 100000 in
theorem snapTells_lifted (os : Os) (started : os.Started) (H : Type) (enc : TypeId × Value → H) :
  ReturnsInHanded {} Tryz.checked os 7 .any (Rows.snapTellsSpec.pre6 enc Tryz.prog Tryz.f7 Rows.snapTellsRow.domain false) (Rows.snapTellsSpec.post enc Tryz.prog Tryz.f7 false true false false) := by
 refine wO (C := Tryz.checked) (boolT := 4) Gj started (by kernel_rfl) Tryz.func7 FR (of_decide_eq_true (by kernel_rfl)) rfl BG rfl ?_
  (ChangeSpec.witness6 (enc := enc) (C := Tryz.checked) false ⟨#[], #[.agg #[.int .i64 0, .int .i64 0, .int .i64 0, .int .i64 0, .slice none 0 0, .int .i64 0, .slice none 0 0, .bool false, .slice none 0 0, .slice none 0 0], .agg #[.int .i64 0, .int .i64 0, .int .i64 0, .int .i64 0, .slice none 0 0, .int .i64 0, .slice none 0 0, .bool false, .slice none 0 0, .slice none 0 0], .slice none 0 0], []⟩ 8 (by kernel_rfl) (by kernel_rfl) (by kernel_rfl) (by kernel_rfl))
  (nI x9 (nI x9 (nI Bl (CQ _)))) ?_
 ·intro ds hd
  match ds, hd with
  | [d1, d2, d3], _ => rfl
 ·rintro ⟨a, b, c, _⟩ ⟨ha, hb, hc, _⟩
  exact BW a b c ha.okV hb.okV hc.1

theorem snapTells_j0 : (Rows.snapTellsRow.wf (OpenSpec.ofChange Rows.snapTellsSpec)) = true := by kernel_rfl
theorem snapTells_j3 : (Tryz.f7.params.all (Tryz.pinned.checked.prog.readableRec ·)) = true := by kernel_rfl
theorem snapTells_j4 : (namedTie Tryz.pinned.checked.prog Rows.snapTellsRow.named Rows.snapTellsSpec.vars) = true := by kernel_rfl
theorem snapTells_j5 : ((Rows.snapTellsRow.stops == [])) = true := by kernel_rfl
theorem snapTells_j6 : ((Tryz.pinned.checked.prog.stops == [])) = true := by kernel_rfl
theorem snapTells_j7 : ((Rows.snapTellsRow.knobs == [])) = true := by kernel_rfl
theorem snapTells_j8 : ((Tryz.pinned.checked.prog.stopKnobs == [])) = true := by kernel_rfl
theorem snapTells_j9 : ((Rows.snapTellsRow.inPlace == Tryz.pinned.checked.prog.inPlace 7)) = true := by kernel_rfl
theorem snapTells_j10 : ((Rows.snapTellsRow.unfollowed == Tryz.pinned.checked.prog.unfollowed 7)) = true := by kernel_rfl
theorem snapTells_j11 : ((Rows.snapTellsRow.recurses == Tryz.pinned.checked.prog.recurses 7)) = true := by kernel_rfl
theorem snapTells_j12 : ((Rows.snapTellsRow.named == Tryz.pinned.checked.prog.varsNamed 7)) = true := by kernel_rfl
theorem snapTells_j13 : ((Rows.snapTellsRow.maps == (Tryz.f7.params.toList ++ Rows.snapTellsSpec.plain.varTypes Tryz.pinned.checked.prog).any (Tryz.pinned.checked.prog.mapsRec ·))) = true := by kernel_rfl
theorem snapTells_j14 : ((Rows.snapTellsRow.ifaces == (Tryz.f7.params.toList ++ Rows.snapTellsSpec.plain.varTypes Tryz.pinned.checked.prog).any (Tryz.pinned.checked.prog.ifacesRec ·))) = true := by kernel_rfl
theorem snapTells_j15 : ((Rows.snapTellsRow.mapsOut == Tryz.pinned.checked.prog.mapsAmong Tryz.f7.resultTypes.toList)) = true := by kernel_rfl
theorem snapTells_j16 : ((Rows.snapTellsRow.loops == (Tryz.f7.params.toList ++ Rows.snapTellsSpec.plain.varTypes Tryz.pinned.checked.prog).any (Tryz.pinned.checked.prog.loopsFrom ·))) = true := by kernel_rfl
theorem snapTells_j17 : ((Rows.snapTellsRow.wideKeys == (Tryz.f7.params.toList ++ Rows.snapTellsSpec.plain.varTypes Tryz.pinned.checked.prog ++ Tryz.f7.resultTypes.toList).any (Tryz.pinned.checked.prog.wideKeysFrom ·))) = true := by kernel_rfl
theorem snapTells_j18 : (Rows.snapTellsSpec.vars.all (Tryz.pinned.checked.prog.varReadable ·)) = true := by kernel_rfl
theorem snapTells_j19 : (Tryz.f7.resultTypes.all (fun t => Tryz.pinned.checked.prog.readableRec t && decide (t < Tryz.pinned.checked.prog.types.size))) = true := by kernel_rfl
theorem snapTells_j20 : ((Rows.snapTellsRow.ifacesOut == Tryz.f7.resultTypes.toList.any (Tryz.pinned.checked.prog.ifacesRec ·))) = true := by kernel_rfl
theorem snapTells_j21 : ((Rows.snapTellsRow.loopsOut == Tryz.f7.resultTypes.toList.any (Tryz.pinned.checked.prog.loopsFrom ·))) = true := by kernel_rfl
theorem snapTells_j23 : (Rows.snapTellsRow.shortTexts.isNone) = true := by kernel_rfl
theorem snapTells_j28 : ((Rows.snapTellsRow.kinds == (if Rows.snapTellsRow.domain.isEmpty then [] else Tryz.f7.params.toList.map fun t => match Tryz.pinned.checked.prog.underlying t with | some (.int k) => some k | _ => none))) = true := by kernel_rfl
theorem snapTells_j29 : ((Rows.snapTellsRow.pinned == Rows.snapTellsRow.pinnedBy)) = true := by kernel_rfl
theorem snapTells_j30 : ((Rows.snapTellsRow.veiled == (Tryz.f7.params.toList ++ Rows.snapTellsSpec.plain.varTypes Tryz.pinned.checked.prog ++ Tryz.f7.resultTypes.toList).any (Tryz.pinned.checked.prog.veiledRec ·))) = true := by kernel_rfl
theorem snapTells_j31 : (Rows.snapTellsRow.veiledFits Tryz.pinned.checked.prog Tryz.f7.params.toList (Tryz.f7.params.toList ++ Rows.snapTellsSpec.plain.varTypes Tryz.pinned.checked.prog ++ Tryz.f7.resultTypes.toList)) = true := by kernel_rfl
set_option maxRecDepth 100000 in
theorem snapTells_closed : joinedFacts Tryz.pinned.checked.prog 7 Tryz.f7 Rows.snapTellsSpec Rows.snapTellsRow = true := by
 unfold joinedFacts
 exact aT (aT (aT (aT (aT (aT (aT (aT (aT (aT (aT (aT (aT (aT (aT (aT (aT (aT (aT (aT (aT (aT (aT (aT (aT (aT (aT (aT (aT (aT (aT (snapTells_j0) Gt) Gu) snapTells_j3) snapTells_j4) snapTells_j5) snapTells_j6) snapTells_j7) snapTells_j8) snapTells_j9) snapTells_j10) snapTells_j11) snapTells_j12) snapTells_j13) snapTells_j14) snapTells_j15) snapTells_j16) snapTells_j17) snapTells_j18) snapTells_j19) snapTells_j20) snapTells_j21) F7) snapTells_j23) F8) F9) F_) Ga) snapTells_j28) snapTells_j29) snapTells_j30) snapTells_j31
theorem snapTells_wrap : (Tryz.f7).isWrapper Tryz.pinned.checked.prog Rows.snapTellsRow.wrapper Rows.snapTellsRow.mainSum := by
 unfold Func.isWrapper; rw [if_neg (of_decide_eq_false (by kernel_rfl))]; exact ⟨rfl, rfl⟩
theorem snapTells_inst : (Tryz.f7).isInstance Tryz.pinned.checked.prog Rows.snapTellsRow.origin Rows.snapTellsRow.targs := of_decide_eq_true (by kernel_rfl)
theorem snapTells_fn : Tryz.pinned.checked.prog.funcNamed Rows.snapTellsRow.func = some 7 := by kernel_rfl
theorem snapTells_holds : Rows.SnapTellsSaid :=
 OpenClaim.holds_of_wide 7 Tryz.f7 rfl rfl rfl rfl rfl rfl rfl ⟨rfl, rfl, rfl, rfl, rfl⟩ rfl rfl rfl rfl rfl snapTells_fn Tryz.func7 snapTells_closed snapTells_inst snapTells_wrap
  (fun os started H enc _ => snapTells_lifted os started H enc)

end Go.Proofs.YtaecchphjploaaaGreat
