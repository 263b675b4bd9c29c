/- homesteadlaw18.LedgerZero. -/
import Derived.Test.YtkojlembanldcaaGreatRt
import Derived.Test.YtkojlembanldcaaGreatGe
import Derived.Test.YtkojlembanldcaaGreatRd
import Derived.Test.YtkojlembanldcaaGreatGk
set_option linter.unusedSimpArgs false
set_option linter.unusedVariables false
namespace Go.Proofs.YtkojlembanldcaaGreat
open Go Go.RowKit Eng

set_option maxRecDepth 100000 in
theorem ledgerZero_lifted (os : Os) (started : os.Started) (H : Type) (enc : TypeId × Value → H) :
    ReturnsInHanded {} Tryz.checked os 19 .any (Rows.ledgerZeroSpec.pre6 enc Tryz.prog Tryz.f19 Rows.ledgerZeroRow.domain false) (Rows.ledgerZeroSpec.post enc Tryz.prog Tryz.f19 false true false false) := by
  refine lifted_true (C := Tryz.checked) (boolT := 4) P_own started (by kernel_rfl) Tryz.func19 P_laid (of_decide_eq_true (by kernel_rfl)) rfl boolUn rfl ?_
    (ChangeSpec.witness6 (enc := enc) (C := Tryz.checked) false ⟨#[], #[.agg #[.int .i64 0, .int .u64 0, .int .i64 0, .slice none 0 0, .slice none 0 0], .slice none 0 0], []⟩ 8 (by kernel_rfl) (by kernel_rfl) (by kernel_rfl) (by kernel_rfl))
    (args_cons ag_world (args_cons ag_orders2 (args_nil _))) ?_
  · intro ds hd
    match ds, hd with
    | [d1, d2], _ => rfl
  · rintro ⟨w, l, _⟩ ⟨hw, hl, _⟩
    exact lzero_api w l hw.okW ⟨by have h : l.length * 24 ≤ 140737488351232 := hl.2; omega, fun b hb => ⟨by have h : b.length * 56 ≤ 140737488351232 := (hl.1 b hb).2; omega, fun o ho => ⟨((hl.1 b hb).1 o ho).1.2, ((hl.1 b hb).1 o ho).2.2.1.1, ((hl.1 b hb).1 o ho).2.2.1.2⟩⟩⟩

theorem ledgerZero_j0 : (Rows.ledgerZeroRow.wf (OpenSpec.ofChange Rows.ledgerZeroSpec)) = true := by kernel_rfl
theorem ledgerZero_j3 : (Tryz.f19.params.all (Tryz.pinned.checked.prog.readableRec ·)) = true := by kernel_rfl
theorem ledgerZero_j4 : (namedTie Tryz.pinned.checked.prog Rows.ledgerZeroRow.named Rows.ledgerZeroSpec.vars) = true := by kernel_rfl
theorem ledgerZero_j5 : ((Rows.ledgerZeroRow.stops == [])) = true := by kernel_rfl
theorem ledgerZero_j6 : ((Tryz.pinned.checked.prog.stops == [])) = true := by kernel_rfl
theorem ledgerZero_j7 : ((Rows.ledgerZeroRow.knobs == [])) = true := by kernel_rfl
theorem ledgerZero_j8 : ((Tryz.pinned.checked.prog.stopKnobs == [])) = true := by kernel_rfl
theorem ledgerZero_j9 : ((Rows.ledgerZeroRow.inPlace == Tryz.pinned.checked.prog.inPlace 19)) = true := by kernel_rfl
theorem ledgerZero_j10 : ((Rows.ledgerZeroRow.unfollowed == Tryz.pinned.checked.prog.unfollowed 19)) = true := by kernel_rfl
theorem ledgerZero_j11 : ((Rows.ledgerZeroRow.recurses == Tryz.pinned.checked.prog.recurses 19)) = true := by kernel_rfl
theorem ledgerZero_j12 : ((Rows.ledgerZeroRow.named == Tryz.pinned.checked.prog.varsNamed 19)) = true := by kernel_rfl
theorem ledgerZero_j13 : ((Rows.ledgerZeroRow.maps == (Tryz.f19.params.toList ++ Rows.ledgerZeroSpec.plain.varTypes Tryz.pinned.checked.prog).any (Tryz.pinned.checked.prog.mapsRec ·))) = true := by kernel_rfl
theorem ledgerZero_j14 : ((Rows.ledgerZeroRow.ifaces == (Tryz.f19.params.toList ++ Rows.ledgerZeroSpec.plain.varTypes Tryz.pinned.checked.prog).any (Tryz.pinned.checked.prog.ifacesRec ·))) = true := by kernel_rfl
theorem ledgerZero_j15 : ((Rows.ledgerZeroRow.mapsOut == Tryz.pinned.checked.prog.mapsAmong Tryz.f19.resultTypes.toList)) = true := by kernel_rfl
theorem ledgerZero_j16 : ((Rows.ledgerZeroRow.loops == (Tryz.f19.params.toList ++ Rows.ledgerZeroSpec.plain.varTypes Tryz.pinned.checked.prog).any (Tryz.pinned.checked.prog.loopsFrom ·))) = true := by kernel_rfl
theorem ledgerZero_j17 : ((Rows.ledgerZeroRow.wideKeys == (Tryz.f19.params.toList ++ Rows.ledgerZeroSpec.plain.varTypes Tryz.pinned.checked.prog ++ Tryz.f19.resultTypes.toList).any (Tryz.pinned.checked.prog.wideKeysFrom ·))) = true := by kernel_rfl
theorem ledgerZero_j18 : (Rows.ledgerZeroSpec.vars.all (Tryz.pinned.checked.prog.varReadable ·)) = true := by kernel_rfl
theorem ledgerZero_j19 : (Tryz.f19.resultTypes.all (fun t => Tryz.pinned.checked.prog.readableRec t && decide (t < Tryz.pinned.checked.prog.types.size))) = true := by kernel_rfl
theorem ledgerZero_j20 : ((Rows.ledgerZeroRow.ifacesOut == Tryz.f19.resultTypes.toList.any (Tryz.pinned.checked.prog.ifacesRec ·))) = true := by kernel_rfl
theorem ledgerZero_j21 : ((Rows.ledgerZeroRow.loopsOut == Tryz.f19.resultTypes.toList.any (Tryz.pinned.checked.prog.loopsFrom ·))) = true := by kernel_rfl
theorem ledgerZero_j23 : (Rows.ledgerZeroRow.shortTexts.isNone) = true := by kernel_rfl
theorem ledgerZero_j28 : ((Rows.ledgerZeroRow.kinds == (if Rows.ledgerZeroRow.domain.isEmpty then [] else Tryz.f19.params.toList.map fun t => match Tryz.pinned.checked.prog.underlying t with | some (.int k) => some k | _ => none))) = true := by kernel_rfl
theorem ledgerZero_j29 : ((Rows.ledgerZeroRow.pinned == Rows.ledgerZeroRow.pinnedBy)) = true := by kernel_rfl
theorem ledgerZero_j30 : ((Rows.ledgerZeroRow.veiled == (Tryz.f19.params.toList ++ Rows.ledgerZeroSpec.plain.varTypes Tryz.pinned.checked.prog ++ Tryz.f19.resultTypes.toList).any (Tryz.pinned.checked.prog.veiledRec ·))) = true := by kernel_rfl
theorem ledgerZero_j31 : (Rows.ledgerZeroRow.veiledFits Tryz.pinned.checked.prog Tryz.f19.params.toList (Tryz.f19.params.toList ++ Rows.ledgerZeroSpec.plain.varTypes Tryz.pinned.checked.prog ++ Tryz.f19.resultTypes.toList)) = true := by kernel_rfl
set_option maxRecDepth 100000 in
theorem ledgerZero_closed : joinedFacts Tryz.pinned.checked.prog 19 Tryz.f19 Rows.ledgerZeroSpec Rows.ledgerZeroRow = true := by
  unfold joinedFacts
  exact aT (aT (aT (aT (aT (aT (aT (aT (aT (aT (aT (aT (aT (aT (aT (aT (aT (aT (aT (aT (aT (aT (aT (aT (aT (aT (aT (aT (aT (aT (aT (ledgerZero_j0) js_1) js_2) ledgerZero_j3) ledgerZero_j4) ledgerZero_j5) ledgerZero_j6) ledgerZero_j7) ledgerZero_j8) ledgerZero_j9) ledgerZero_j10) ledgerZero_j11) ledgerZero_j12) ledgerZero_j13) ledgerZero_j14) ledgerZero_j15) ledgerZero_j16) ledgerZero_j17) ledgerZero_j18) ledgerZero_j19) ledgerZero_j20) ledgerZero_j21) js_22) ledgerZero_j23) js_24) js_25) js_26) js_27) ledgerZero_j28) ledgerZero_j29) ledgerZero_j30) ledgerZero_j31
theorem ledgerZero_wrap : (Tryz.f19).isWrapper Tryz.pinned.checked.prog Rows.ledgerZeroRow.wrapper Rows.ledgerZeroRow.mainSum := by
  unfold Func.isWrapper; rw [if_neg (of_decide_eq_false (by kernel_rfl))]; exact ⟨rfl, rfl⟩
theorem ledgerZero_inst : (Tryz.f19).isInstance Tryz.pinned.checked.prog Rows.ledgerZeroRow.origin Rows.ledgerZeroRow.targs := of_decide_eq_true (by kernel_rfl)
theorem ledgerZero_fn : Tryz.pinned.checked.prog.funcNamed Rows.ledgerZeroRow.func = some 19 := by kernel_rfl
theorem ledgerZero_holds : Rows.LedgerZeroSaid :=
  OpenClaim.holds_of_wide 19 Tryz.f19 rfl rfl rfl rfl rfl rfl rfl ⟨rfl, rfl, rfl, rfl, rfl⟩ rfl rfl rfl rfl rfl ledgerZero_fn Tryz.func19 ledgerZero_closed ledgerZero_inst ledgerZero_wrap
    (fun os started H enc _ => ledgerZero_lifted os started H enc)

end Go.Proofs.YtkojlembanldcaaGreat
