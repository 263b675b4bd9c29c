/- For every slice of views the call of homesteadlaw20.SnapChain returns true, and its argument reads as it did. No conditions. -/
import Derived.Test.YtaecchphjploaaaGreatGr
import Derived.Test.YtaecchphjploaaaGreatGu
import Derived.Test.YtaecchphjploaaaGreatGt
set_option linter.unusedSimpArgs false
set_option linter.unusedVariables false
namespace Go.Proofs.YtaecchphjploaaaGreat
open Go Go.RowKit Eng

set_option maxRecDepth 100000 in
theorem snapChain_lifted (os : Os) (started : os.Started) (H : Type) (enc : TypeId × Value → H) :
    ReturnsInHanded {} Tryz.checked os 6 .any (Rows.snapChainSpec.pre6 enc Tryz.prog Tryz.f6 Rows.snapChainRow.domain false) (Rows.snapChainSpec.post enc Tryz.prog Tryz.f6 false true false false) := by
  refine lifted_true (C := Tryz.checked) (boolT := 4) P_own started (by kernel_rfl) Tryz.func6 P_laid (of_decide_eq_true (by kernel_rfl)) rfl boolUn rfl ?_
    (ChangeSpec.witness6 (enc := enc) (C := Tryz.checked) false ⟨#[], #[.slice none 0 0], []⟩ 8 (by kernel_rfl) (by kernel_rfl) (by kernel_rfl) (by kernel_rfl))
    (args_cons ag_views (args_nil _)) ?_
  · intro ds hd
    match ds, hd with
    | [d1], _ => rfl
  · rintro ⟨l, _⟩ ⟨hl, _⟩
    exact snapChain_api l hl.2 fun v hv => (hl.1 v hv).okV

theorem snapChain_j0 : (Rows.snapChainRow.wf (OpenSpec.ofChange Rows.snapChainSpec)) = true := by kernel_rfl
theorem snapChain_j3 : (Tryz.f6.params.all (Tryz.pinned.checked.prog.readableRec ·)) = true := by kernel_rfl
theorem snapChain_j4 : (namedTie Tryz.pinned.checked.prog Rows.snapChainRow.named Rows.snapChainSpec.vars) = true := by kernel_rfl
theorem snapChain_j5 : ((Rows.snapChainRow.stops == [])) = true := by kernel_rfl
theorem snapChain_j6 : ((Tryz.pinned.checked.prog.stops == [])) = true := by kernel_rfl
theorem snapChain_j7 : ((Rows.snapChainRow.knobs == [])) = true := by kernel_rfl
theorem snapChain_j8 : ((Tryz.pinned.checked.prog.stopKnobs == [])) = true := by kernel_rfl
theorem snapChain_j9 : ((Rows.snapChainRow.inPlace == Tryz.pinned.checked.prog.inPlace 6)) = true := by kernel_rfl
theorem snapChain_j10 : ((Rows.snapChainRow.unfollowed == Tryz.pinned.checked.prog.unfollowed 6)) = true := by kernel_rfl
theorem snapChain_j11 : ((Rows.snapChainRow.recurses == Tryz.pinned.checked.prog.recurses 6)) = true := by kernel_rfl
theorem snapChain_j12 : ((Rows.snapChainRow.named == Tryz.pinned.checked.prog.varsNamed 6)) = true := by kernel_rfl
theorem snapChain_j13 : ((Rows.snapChainRow.maps == (Tryz.f6.params.toList ++ Rows.snapChainSpec.plain.varTypes Tryz.pinned.checked.prog).any (Tryz.pinned.checked.prog.mapsRec ·))) = true := by kernel_rfl
theorem snapChain_j14 : ((Rows.snapChainRow.ifaces == (Tryz.f6.params.toList ++ Rows.snapChainSpec.plain.varTypes Tryz.pinned.checked.prog).any (Tryz.pinned.checked.prog.ifacesRec ·))) = true := by kernel_rfl
theorem snapChain_j15 : ((Rows.snapChainRow.mapsOut == Tryz.pinned.checked.prog.mapsAmong Tryz.f6.resultTypes.toList)) = true := by kernel_rfl
theorem snapChain_j16 : ((Rows.snapChainRow.loops == (Tryz.f6.params.toList ++ Rows.snapChainSpec.plain.varTypes Tryz.pinned.checked.prog).any (Tryz.pinned.checked.prog.loopsFrom ·))) = true := by kernel_rfl
theorem snapChain_j17 : ((Rows.snapChainRow.wideKeys == (Tryz.f6.params.toList ++ Rows.snapChainSpec.plain.varTypes Tryz.pinned.checked.prog ++ Tryz.f6.resultTypes.toList).any (Tryz.pinned.checked.prog.wideKeysFrom ·))) = true := by kernel_rfl
theorem snapChain_j18 : (Rows.snapChainSpec.vars.all (Tryz.pinned.checked.prog.varReadable ·)) = true := by kernel_rfl
theorem snapChain_j19 : (Tryz.f6.resultTypes.all (fun t => Tryz.pinned.checked.prog.readableRec t && decide (t < Tryz.pinned.checked.prog.types.size))) = true := by kernel_rfl
theorem snapChain_j20 : ((Rows.snapChainRow.ifacesOut == Tryz.f6.resultTypes.toList.any (Tryz.pinned.checked.prog.ifacesRec ·))) = true := by kernel_rfl
theorem snapChain_j21 : ((Rows.snapChainRow.loopsOut == Tryz.f6.resultTypes.toList.any (Tryz.pinned.checked.prog.loopsFrom ·))) = true := by kernel_rfl
theorem snapChain_j23 : (Rows.snapChainRow.shortTexts.isNone) = true := by kernel_rfl
theorem snapChain_j28 : ((Rows.snapChainRow.kinds == (if Rows.snapChainRow.domain.isEmpty then [] else Tryz.f6.params.toList.map fun t => match Tryz.pinned.checked.prog.underlying t with | some (.int k) => some k | _ => none))) = true := by kernel_rfl
theorem snapChain_j29 : ((Rows.snapChainRow.pinned == Rows.snapChainRow.pinnedBy)) = true := by kernel_rfl
theorem snapChain_j30 : ((Rows.snapChainRow.veiled == (Tryz.f6.params.toList ++ Rows.snapChainSpec.plain.varTypes Tryz.pinned.checked.prog ++ Tryz.f6.resultTypes.toList).any (Tryz.pinned.checked.prog.veiledRec ·))) = true := by kernel_rfl
theorem snapChain_j31 : (Rows.snapChainRow.veiledFits Tryz.pinned.checked.prog Tryz.f6.params.toList (Tryz.f6.params.toList ++ Rows.snapChainSpec.plain.varTypes Tryz.pinned.checked.prog ++ Tryz.f6.resultTypes.toList)) = true := by kernel_rfl
set_option maxRecDepth 100000 in
theorem snapChain_closed : joinedFacts Tryz.pinned.checked.prog 6 Tryz.f6 Rows.snapChainSpec Rows.snapChainRow = true := by
  unfold joinedFacts
  exact aT (aT (aT (aT (aT (aT (aT (aT (aT (aT (aT (aT (aT (aT (aT (aT (aT (aT (aT (aT (aT (aT (aT (aT (aT (aT (aT (aT (aT (aT (aT (snapChain_j0) js_1) js_2) snapChain_j3) snapChain_j4) snapChain_j5) snapChain_j6) snapChain_j7) snapChain_j8) snapChain_j9) snapChain_j10) snapChain_j11) snapChain_j12) snapChain_j13) snapChain_j14) snapChain_j15) snapChain_j16) snapChain_j17) snapChain_j18) snapChain_j19) snapChain_j20) snapChain_j21) js_22) snapChain_j23) js_24) js_25) js_26) js_27) snapChain_j28) snapChain_j29) snapChain_j30) snapChain_j31
theorem snapChain_wrap : (Tryz.f6).isWrapper Tryz.pinned.checked.prog Rows.snapChainRow.wrapper Rows.snapChainRow.mainSum := by
  unfold Func.isWrapper; rw [if_neg (of_decide_eq_false (by kernel_rfl))]; exact ⟨rfl, rfl⟩
theorem snapChain_inst : (Tryz.f6).isInstance Tryz.pinned.checked.prog Rows.snapChainRow.origin Rows.snapChainRow.targs := of_decide_eq_true (by kernel_rfl)
theorem snapChain_fn : Tryz.pinned.checked.prog.funcNamed Rows.snapChainRow.func = some 6 := by kernel_rfl
theorem snapChain_holds : Rows.SnapChainSaid :=
  OpenClaim.holds_of_wide 6 Tryz.f6 rfl rfl rfl rfl rfl rfl rfl ⟨rfl, rfl, rfl, rfl, rfl⟩ rfl rfl rfl rfl rfl snapChain_fn Tryz.func6 snapChain_closed snapChain_inst snapChain_wrap
    (fun os started H enc _ => snapChain_lifted os started H enc)

end Go.Proofs.YtaecchphjploaaaGreat
