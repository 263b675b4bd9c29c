/- For any two numbers the call of homesteadlaw27.PathNear returns true, and its arguments read as they did. No conditions. -/
import Derived.Test.YtchdgiooggdfeaaGreatGs
import Derived.Test.YtchdgiooggdfeaaGreatGj
import Derived.Test.YtchdgiooggdfeaaGreatGt
set_option linter.unusedSimpArgs false
set_option linter.unusedVariables false
namespace Go.Proofs.YtchdgiooggdfeaaGreat
open Go Go.RowKit Eng

set_option maxRecDepth 100000 in
theorem pathNear_lifted (os : Os) (started : os.Started) (H : Type) (enc : TypeId × Value → H) :
    ReturnsInHanded {} Tryz.checked os 4 .any (Rows.pathNearSpec.pre6 enc Tryz.prog Tryz.f4 Rows.pathNearRow.domain false) (Rows.pathNearSpec.post enc Tryz.prog Tryz.f4 false true false false) := by
  refine lifted_true (C := Tryz.checked) (boolT := 4) P_own started (by kernel_rfl) Tryz.func4 P_laid (of_decide_eq_true (by kernel_rfl)) rfl boolUn rfl ?_
    (ChangeSpec.witness6 (enc := enc) (C := Tryz.checked) false ⟨#[], #[.int .u8 0, .int .u8 0], []⟩ 8 (by kernel_rfl) (by kernel_rfl) (by kernel_rfl) (by kernel_rfl))
    (args_cons ag_u8 (args_cons ag_u8 (args_nil _))) ?_
  · intro ds hd
    match ds, hd with
    | [d1, d2], _ => rfl
  · rintro ⟨a, b, _⟩ ⟨ha, hb, _⟩
    exact pnear_api a b ha hb

theorem pathNear_j0 : (Rows.pathNearRow.wf (OpenSpec.ofChange Rows.pathNearSpec)) = true := by kernel_rfl
theorem pathNear_j3 : (Tryz.f4.params.all (Tryz.pinned.checked.prog.readableRec ·)) = true := by kernel_rfl
theorem pathNear_j4 : (namedTie Tryz.pinned.checked.prog Rows.pathNearRow.named Rows.pathNearSpec.vars) = true := by kernel_rfl
theorem pathNear_j5 : ((Rows.pathNearRow.stops == [])) = true := by kernel_rfl
theorem pathNear_j6 : ((Tryz.pinned.checked.prog.stops == [])) = true := by kernel_rfl
theorem pathNear_j7 : ((Rows.pathNearRow.knobs == [])) = true := by kernel_rfl
theorem pathNear_j8 : ((Tryz.pinned.checked.prog.stopKnobs == [])) = true := by kernel_rfl
theorem pathNear_j9 : ((Rows.pathNearRow.inPlace == Tryz.pinned.checked.prog.inPlace 4)) = true := by kernel_rfl
theorem pathNear_j10 : ((Rows.pathNearRow.unfollowed == Tryz.pinned.checked.prog.unfollowed 4)) = true := by kernel_rfl
theorem pathNear_j11 : ((Rows.pathNearRow.recurses == Tryz.pinned.checked.prog.recurses 4)) = true := by kernel_rfl
theorem pathNear_j12 : ((Rows.pathNearRow.named == Tryz.pinned.checked.prog.varsNamed 4)) = true := by kernel_rfl
theorem pathNear_j13 : ((Rows.pathNearRow.maps == (Tryz.f4.params.toList ++ Rows.pathNearSpec.plain.varTypes Tryz.pinned.checked.prog).any (Tryz.pinned.checked.prog.mapsRec ·))) = true := by kernel_rfl
theorem pathNear_j14 : ((Rows.pathNearRow.ifaces == (Tryz.f4.params.toList ++ Rows.pathNearSpec.plain.varTypes Tryz.pinned.checked.prog).any (Tryz.pinned.checked.prog.ifacesRec ·))) = true := by kernel_rfl
theorem pathNear_j15 : ((Rows.pathNearRow.mapsOut == Tryz.pinned.checked.prog.mapsAmong Tryz.f4.resultTypes.toList)) = true := by kernel_rfl
theorem pathNear_j16 : ((Rows.pathNearRow.loops == (Tryz.f4.params.toList ++ Rows.pathNearSpec.plain.varTypes Tryz.pinned.checked.prog).any (Tryz.pinned.checked.prog.loopsFrom ·))) = true := by kernel_rfl
theorem pathNear_j17 : ((Rows.pathNearRow.wideKeys == (Tryz.f4.params.toList ++ Rows.pathNearSpec.plain.varTypes Tryz.pinned.checked.prog ++ Tryz.f4.resultTypes.toList).any (Tryz.pinned.checked.prog.wideKeysFrom ·))) = true := by kernel_rfl
theorem pathNear_j18 : (Rows.pathNearSpec.vars.all (Tryz.pinned.checked.prog.varReadable ·)) = true := by kernel_rfl
theorem pathNear_j19 : (Tryz.f4.resultTypes.all (fun t => Tryz.pinned.checked.prog.readableRec t && decide (t < Tryz.pinned.checked.prog.types.size))) = true := by kernel_rfl
theorem pathNear_j20 : ((Rows.pathNearRow.ifacesOut == Tryz.f4.resultTypes.toList.any (Tryz.pinned.checked.prog.ifacesRec ·))) = true := by kernel_rfl
theorem pathNear_j21 : ((Rows.pathNearRow.loopsOut == Tryz.f4.resultTypes.toList.any (Tryz.pinned.checked.prog.loopsFrom ·))) = true := by kernel_rfl
theorem pathNear_j23 : (Rows.pathNearRow.shortTexts.isNone) = true := by kernel_rfl
theorem pathNear_j28 : ((Rows.pathNearRow.kinds == (if Rows.pathNearRow.domain.isEmpty then [] else Tryz.f4.params.toList.map fun t => match Tryz.pinned.checked.prog.underlying t with | some (.int k) => some k | _ => none))) = true := by kernel_rfl
theorem pathNear_j29 : ((Rows.pathNearRow.pinned == Rows.pathNearRow.pinnedBy)) = true := by kernel_rfl
theorem pathNear_j30 : ((Rows.pathNearRow.veiled == (Tryz.f4.params.toList ++ Rows.pathNearSpec.plain.varTypes Tryz.pinned.checked.prog ++ Tryz.f4.resultTypes.toList).any (Tryz.pinned.checked.prog.veiledRec ·))) = true := by kernel_rfl
theorem pathNear_j31 : (Rows.pathNearRow.veiledFits Tryz.pinned.checked.prog Tryz.f4.params.toList (Tryz.f4.params.toList ++ Rows.pathNearSpec.plain.varTypes Tryz.pinned.checked.prog ++ Tryz.f4.resultTypes.toList)) = true := by kernel_rfl
set_option maxRecDepth 100000 in
theorem pathNear_closed : joinedFacts Tryz.pinned.checked.prog 4 Tryz.f4 Rows.pathNearSpec Rows.pathNearRow = true := by
  unfold joinedFacts
  exact aT (aT (aT (aT (aT (aT (aT (aT (aT (aT (aT (aT (aT (aT (aT (aT (aT (aT (aT (aT (aT (aT (aT (aT (aT (aT (aT (aT (aT (aT (aT (pathNear_j0) js_1) js_2) pathNear_j3) pathNear_j4) pathNear_j5) pathNear_j6) pathNear_j7) pathNear_j8) pathNear_j9) pathNear_j10) pathNear_j11) pathNear_j12) pathNear_j13) pathNear_j14) pathNear_j15) pathNear_j16) pathNear_j17) pathNear_j18) pathNear_j19) pathNear_j20) pathNear_j21) js_22) pathNear_j23) js_24) js_25) js_26) js_27) pathNear_j28) pathNear_j29) pathNear_j30) pathNear_j31
theorem pathNear_wrap : (Tryz.f4).isWrapper Tryz.pinned.checked.prog Rows.pathNearRow.wrapper Rows.pathNearRow.mainSum := by
  unfold Func.isWrapper; rw [if_neg (of_decide_eq_false (by kernel_rfl))]; exact ⟨rfl, rfl⟩
theorem pathNear_inst : (Tryz.f4).isInstance Tryz.pinned.checked.prog Rows.pathNearRow.origin Rows.pathNearRow.targs := of_decide_eq_true (by kernel_rfl)
theorem pathNear_fn : Tryz.pinned.checked.prog.funcNamed Rows.pathNearRow.func = some 4 := by kernel_rfl
theorem pathNear_holds : Rows.PathNearSaid :=
  OpenClaim.holds_of_wide 4 Tryz.f4 rfl rfl rfl rfl rfl rfl rfl ⟨rfl, rfl, rfl, rfl, rfl⟩ rfl rfl rfl rfl rfl pathNear_fn Tryz.func4 pathNear_closed pathNear_inst pathNear_wrap
    (fun os started H enc _ => pathNear_lifted os started H enc)

end Go.Proofs.YtchdgiooggdfeaaGreat
