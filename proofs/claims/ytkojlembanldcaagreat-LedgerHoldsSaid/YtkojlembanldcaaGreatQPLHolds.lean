/- homesteadlaw18.LedgerHolds. -/
import Derived.Test.YtkojlembanldcaaGreatRs
import Derived.Test.YtkojlembanldcaaGreatGe
import Derived.Test.YtkojlembanldcaaGreatRd
import Derived.Test.YtkojlembanldcaaGreatGk
set_option linter.unusedSimpArgs false
set_option linter.unusedVariables false
namespace Go.Proofs.YtkojlembanldcaaGreat
open Go Go.RowKit Eng

set_option maxRecDepth 100000 in
theorem ledgerHolds_lifted (os : Os) (started : os.Started) (H : Type) (enc : TypeId × Value → H) :
    ReturnsInHanded {} Tryz.checked os 18 .any (Rows.ledgerHoldsSpec.pre6 enc Tryz.prog Tryz.f18 Rows.ledgerHoldsRow.domain false) (Rows.ledgerHoldsSpec.post enc Tryz.prog Tryz.f18 false true false false) := by
  refine lifted_true (C := Tryz.checked) (boolT := 4) P_own started (by kernel_rfl) Tryz.func18 P_laid (of_decide_eq_true (by kernel_rfl)) rfl boolUn rfl ?_
    (ChangeSpec.witness6 (enc := enc) (C := Tryz.checked) false ⟨#[], #[.agg #[.int .i64 0, .int .u64 0, .int .i64 0, .slice none 0 0, .slice none 0 0], .slice none 0 0], []⟩ 8 (by kernel_rfl) (by kernel_rfl) (by kernel_rfl) (by kernel_rfl))
    (args_cons ag_world (args_cons ag_orders2 (args_nil _))) ?_
  · intro ds hd
    match ds, hd with
    | [d1, d2], _ => rfl
  · rintro ⟨w, l, _⟩ ⟨hw, hl, _⟩
    exact lholds_api w l hw.okW ⟨by have h : l.length * 24 ≤ 140737488351232 := hl.2; omega, fun b hb => ⟨by have h : b.length * 56 ≤ 140737488351232 := (hl.1 b hb).2; omega, fun o ho => ⟨((hl.1 b hb).1 o ho).1.2, ((hl.1 b hb).1 o ho).2.2.1.1, ((hl.1 b hb).1 o ho).2.2.1.2⟩⟩⟩

theorem ledgerHolds_j0 : (Rows.ledgerHoldsRow.wf (OpenSpec.ofChange Rows.ledgerHoldsSpec)) = true := by kernel_rfl
theorem ledgerHolds_j3 : (Tryz.f18.params.all (Tryz.pinned.checked.prog.readableRec ·)) = true := by kernel_rfl
theorem ledgerHolds_j4 : (namedTie Tryz.pinned.checked.prog Rows.ledgerHoldsRow.named Rows.ledgerHoldsSpec.vars) = true := by kernel_rfl
theorem ledgerHolds_j5 : ((Rows.ledgerHoldsRow.stops == [])) = true := by kernel_rfl
theorem ledgerHolds_j6 : ((Tryz.pinned.checked.prog.stops == [])) = true := by kernel_rfl
theorem ledgerHolds_j7 : ((Rows.ledgerHoldsRow.knobs == [])) = true := by kernel_rfl
theorem ledgerHolds_j8 : ((Tryz.pinned.checked.prog.stopKnobs == [])) = true := by kernel_rfl
theorem ledgerHolds_j9 : ((Rows.ledgerHoldsRow.inPlace == Tryz.pinned.checked.prog.inPlace 18)) = true := by kernel_rfl
theorem ledgerHolds_j10 : ((Rows.ledgerHoldsRow.unfollowed == Tryz.pinned.checked.prog.unfollowed 18)) = true := by kernel_rfl
theorem ledgerHolds_j11 : ((Rows.ledgerHoldsRow.recurses == Tryz.pinned.checked.prog.recurses 18)) = true := by kernel_rfl
theorem ledgerHolds_j12 : ((Rows.ledgerHoldsRow.named == Tryz.pinned.checked.prog.varsNamed 18)) = true := by kernel_rfl
theorem ledgerHolds_j13 : ((Rows.ledgerHoldsRow.maps == (Tryz.f18.params.toList ++ Rows.ledgerHoldsSpec.plain.varTypes Tryz.pinned.checked.prog).any (Tryz.pinned.checked.prog.mapsRec ·))) = true := by kernel_rfl
theorem ledgerHolds_j14 : ((Rows.ledgerHoldsRow.ifaces == (Tryz.f18.params.toList ++ Rows.ledgerHoldsSpec.plain.varTypes Tryz.pinned.checked.prog).any (Tryz.pinned.checked.prog.ifacesRec ·))) = true := by kernel_rfl
theorem ledgerHolds_j15 : ((Rows.ledgerHoldsRow.mapsOut == Tryz.pinned.checked.prog.mapsAmong Tryz.f18.resultTypes.toList)) = true := by kernel_rfl
theorem ledgerHolds_j16 : ((Rows.ledgerHoldsRow.loops == (Tryz.f18.params.toList ++ Rows.ledgerHoldsSpec.plain.varTypes Tryz.pinned.checked.prog).any (Tryz.pinned.checked.prog.loopsFrom ·))) = true := by kernel_rfl
theorem ledgerHolds_j17 : ((Rows.ledgerHoldsRow.wideKeys == (Tryz.f18.params.toList ++ Rows.ledgerHoldsSpec.plain.varTypes Tryz.pinned.checked.prog ++ Tryz.f18.resultTypes.toList).any (Tryz.pinned.checked.prog.wideKeysFrom ·))) = true := by kernel_rfl
theorem ledgerHolds_j18 : (Rows.ledgerHoldsSpec.vars.all (Tryz.pinned.checked.prog.varReadable ·)) = true := by kernel_rfl
theorem ledgerHolds_j19 : (Tryz.f18.resultTypes.all (fun t => Tryz.pinned.checked.prog.readableRec t && decide (t < Tryz.pinned.checked.prog.types.size))) = true := by kernel_rfl
theorem ledgerHolds_j20 : ((Rows.ledgerHoldsRow.ifacesOut == Tryz.f18.resultTypes.toList.any (Tryz.pinned.checked.prog.ifacesRec ·))) = true := by kernel_rfl
theorem ledgerHolds_j21 : ((Rows.ledgerHoldsRow.loopsOut == Tryz.f18.resultTypes.toList.any (Tryz.pinned.checked.prog.loopsFrom ·))) = true := by kernel_rfl
theorem ledgerHolds_j23 : (Rows.ledgerHoldsRow.shortTexts.isNone) = true := by kernel_rfl
theorem ledgerHolds_j28 : ((Rows.ledgerHoldsRow.kinds == (if Rows.ledgerHoldsRow.domain.isEmpty then [] else Tryz.f18.params.toList.map fun t => match Tryz.pinned.checked.prog.underlying t with | some (.int k) => some k | _ => none))) = true := by kernel_rfl
theorem ledgerHolds_j29 : ((Rows.ledgerHoldsRow.pinned == Rows.ledgerHoldsRow.pinnedBy)) = true := by kernel_rfl
theorem ledgerHolds_j30 : ((Rows.ledgerHoldsRow.veiled == (Tryz.f18.params.toList ++ Rows.ledgerHoldsSpec.plain.varTypes Tryz.pinned.checked.prog ++ Tryz.f18.resultTypes.toList).any (Tryz.pinned.checked.prog.veiledRec ·))) = true := by kernel_rfl
theorem ledgerHolds_j31 : (Rows.ledgerHoldsRow.veiledFits Tryz.pinned.checked.prog Tryz.f18.params.toList (Tryz.f18.params.toList ++ Rows.ledgerHoldsSpec.plain.varTypes Tryz.pinned.checked.prog ++ Tryz.f18.resultTypes.toList)) = true := by kernel_rfl
set_option maxRecDepth 100000 in
theorem ledgerHolds_closed : joinedFacts Tryz.pinned.checked.prog 18 Tryz.f18 Rows.ledgerHoldsSpec Rows.ledgerHoldsRow = true := by
  unfold joinedFacts
  exact aT (aT (aT (aT (aT (aT (aT (aT (aT (aT (aT (aT (aT (aT (aT (aT (aT (aT (aT (aT (aT (aT (aT (aT (aT (aT (aT (aT (aT (aT (aT (ledgerHolds_j0) js_1) js_2) ledgerHolds_j3) ledgerHolds_j4) ledgerHolds_j5) ledgerHolds_j6) ledgerHolds_j7) ledgerHolds_j8) ledgerHolds_j9) ledgerHolds_j10) ledgerHolds_j11) ledgerHolds_j12) ledgerHolds_j13) ledgerHolds_j14) ledgerHolds_j15) ledgerHolds_j16) ledgerHolds_j17) ledgerHolds_j18) ledgerHolds_j19) ledgerHolds_j20) ledgerHolds_j21) js_22) ledgerHolds_j23) js_24) js_25) js_26) js_27) ledgerHolds_j28) ledgerHolds_j29) ledgerHolds_j30) ledgerHolds_j31
theorem ledgerHolds_wrap : (Tryz.f18).isWrapper Tryz.pinned.checked.prog Rows.ledgerHoldsRow.wrapper Rows.ledgerHoldsRow.mainSum := by
  unfold Func.isWrapper; rw [if_neg (of_decide_eq_false (by kernel_rfl))]; exact ⟨rfl, rfl⟩
theorem ledgerHolds_inst : (Tryz.f18).isInstance Tryz.pinned.checked.prog Rows.ledgerHoldsRow.origin Rows.ledgerHoldsRow.targs := of_decide_eq_true (by kernel_rfl)
theorem ledgerHolds_fn : Tryz.pinned.checked.prog.funcNamed Rows.ledgerHoldsRow.func = some 18 := by kernel_rfl
theorem ledgerHolds_holds : Rows.LedgerHoldsSaid :=
  OpenClaim.holds_of_wide 18 Tryz.f18 rfl rfl rfl rfl rfl rfl rfl ⟨rfl, rfl, rfl, rfl, rfl⟩ rfl rfl rfl rfl rfl ledgerHolds_fn Tryz.func18 ledgerHolds_closed ledgerHolds_inst ledgerHolds_wrap
    (fun os started H enc _ => ledgerHolds_lifted os started H enc)

end Go.Proofs.YtkojlembanldcaaGreat
