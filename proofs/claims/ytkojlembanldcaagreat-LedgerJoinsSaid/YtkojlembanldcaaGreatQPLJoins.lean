/- homesteadlaw18.LedgerJoins. -/
import Derived.Test.YtkojlembanldcaaGreatRr
import Derived.Test.YtkojlembanldcaaGreatGe
import Derived.Test.YtkojlembanldcaaGreatRd
import Derived.Test.YtkojlembanldcaaGreatGk
set_option linter.unusedSimpArgs false
set_option linter.unusedVariables false
namespace Go.Proofs.YtkojlembanldcaaGreat
open Go Go.RowKit Eng

set_option maxRecDepth 100000 in
theorem ledgerJoins_lifted (os : Os) (started : os.Started) (H : Type) (enc : TypeId × Value → H) :
    ReturnsInHanded {} Tryz.checked os 3 .any (Rows.ledgerJoinsSpec.pre6 enc Tryz.prog Tryz.f3 Rows.ledgerJoinsRow.domain false) (Rows.ledgerJoinsSpec.post enc Tryz.prog Tryz.f3 false true false false) := by
  refine lifted_true (C := Tryz.checked) (boolT := 4) P_own started (by kernel_rfl) Tryz.func3 P_laid (of_decide_eq_true (by kernel_rfl)) rfl boolUn rfl ?_
    (ChangeSpec.witness6 (enc := enc) (C := Tryz.checked) false ⟨#[], #[.agg #[.int .i64 0, .int .u64 0, .int .i64 0, .slice none 0 0, .slice none 0 0], .slice none 0 0, .int .i64 0], []⟩ 8 (by kernel_rfl) (by kernel_rfl) (by kernel_rfl) (by kernel_rfl))
    (args_cons ag_world (args_cons ag_orders2 (args_cons ag_int (args_nil _)))) ?_
  · intro ds hd
    match ds, hd with
    | [d1, d2, d3], _ => rfl
  · rintro ⟨w, l, n, _⟩ ⟨hw, hl, hn, _⟩
    exact ljoins_api w l n hw.okW ⟨by have h : l.length * 24 ≤ 140737488351232 := hl.2; omega, fun b hb => ⟨by have h : b.length * 56 ≤ 140737488351232 := (hl.1 b hb).2; omega, fun o ho => ⟨((hl.1 b hb).1 o ho).1.2, ((hl.1 b hb).1 o ho).2.2.1.1, ((hl.1 b hb).1 o ho).2.2.1.2⟩⟩⟩

theorem ledgerJoins_j0 : (Rows.ledgerJoinsRow.wf (OpenSpec.ofChange Rows.ledgerJoinsSpec)) = true := by kernel_rfl
theorem ledgerJoins_j3 : (Tryz.f3.params.all (Tryz.pinned.checked.prog.readableRec ·)) = true := by kernel_rfl
theorem ledgerJoins_j4 : (namedTie Tryz.pinned.checked.prog Rows.ledgerJoinsRow.named Rows.ledgerJoinsSpec.vars) = true := by kernel_rfl
theorem ledgerJoins_j5 : ((Rows.ledgerJoinsRow.stops == [])) = true := by kernel_rfl
theorem ledgerJoins_j6 : ((Tryz.pinned.checked.prog.stops == [])) = true := by kernel_rfl
theorem ledgerJoins_j7 : ((Rows.ledgerJoinsRow.knobs == [])) = true := by kernel_rfl
theorem ledgerJoins_j8 : ((Tryz.pinned.checked.prog.stopKnobs == [])) = true := by kernel_rfl
theorem ledgerJoins_j9 : ((Rows.ledgerJoinsRow.inPlace == Tryz.pinned.checked.prog.inPlace 3)) = true := by kernel_rfl
theorem ledgerJoins_j10 : ((Rows.ledgerJoinsRow.unfollowed == Tryz.pinned.checked.prog.unfollowed 3)) = true := by kernel_rfl
theorem ledgerJoins_j11 : ((Rows.ledgerJoinsRow.recurses == Tryz.pinned.checked.prog.recurses 3)) = true := by kernel_rfl
theorem ledgerJoins_j12 : ((Rows.ledgerJoinsRow.named == Tryz.pinned.checked.prog.varsNamed 3)) = true := by kernel_rfl
theorem ledgerJoins_j13 : ((Rows.ledgerJoinsRow.maps == (Tryz.f3.params.toList ++ Rows.ledgerJoinsSpec.plain.varTypes Tryz.pinned.checked.prog).any (Tryz.pinned.checked.prog.mapsRec ·))) = true := by kernel_rfl
theorem ledgerJoins_j14 : ((Rows.ledgerJoinsRow.ifaces == (Tryz.f3.params.toList ++ Rows.ledgerJoinsSpec.plain.varTypes Tryz.pinned.checked.prog).any (Tryz.pinned.checked.prog.ifacesRec ·))) = true := by kernel_rfl
theorem ledgerJoins_j15 : ((Rows.ledgerJoinsRow.mapsOut == Tryz.pinned.checked.prog.mapsAmong Tryz.f3.resultTypes.toList)) = true := by kernel_rfl
theorem ledgerJoins_j16 : ((Rows.ledgerJoinsRow.loops == (Tryz.f3.params.toList ++ Rows.ledgerJoinsSpec.plain.varTypes Tryz.pinned.checked.prog).any (Tryz.pinned.checked.prog.loopsFrom ·))) = true := by kernel_rfl
theorem ledgerJoins_j17 : ((Rows.ledgerJoinsRow.wideKeys == (Tryz.f3.params.toList ++ Rows.ledgerJoinsSpec.plain.varTypes Tryz.pinned.checked.prog ++ Tryz.f3.resultTypes.toList).any (Tryz.pinned.checked.prog.wideKeysFrom ·))) = true := by kernel_rfl
theorem ledgerJoins_j18 : (Rows.ledgerJoinsSpec.vars.all (Tryz.pinned.checked.prog.varReadable ·)) = true := by kernel_rfl
theorem ledgerJoins_j19 : (Tryz.f3.resultTypes.all (fun t => Tryz.pinned.checked.prog.readableRec t && decide (t < Tryz.pinned.checked.prog.types.size))) = true := by kernel_rfl
theorem ledgerJoins_j20 : ((Rows.ledgerJoinsRow.ifacesOut == Tryz.f3.resultTypes.toList.any (Tryz.pinned.checked.prog.ifacesRec ·))) = true := by kernel_rfl
theorem ledgerJoins_j21 : ((Rows.ledgerJoinsRow.loopsOut == Tryz.f3.resultTypes.toList.any (Tryz.pinned.checked.prog.loopsFrom ·))) = true := by kernel_rfl
theorem ledgerJoins_j23 : (Rows.ledgerJoinsRow.shortTexts.isNone) = true := by kernel_rfl
theorem ledgerJoins_j28 : ((Rows.ledgerJoinsRow.kinds == (if Rows.ledgerJoinsRow.domain.isEmpty then [] else Tryz.f3.params.toList.map fun t => match Tryz.pinned.checked.prog.underlying t with | some (.int k) => some k | _ => none))) = true := by kernel_rfl
theorem ledgerJoins_j29 : ((Rows.ledgerJoinsRow.pinned == Rows.ledgerJoinsRow.pinnedBy)) = true := by kernel_rfl
theorem ledgerJoins_j30 : ((Rows.ledgerJoinsRow.veiled == (Tryz.f3.params.toList ++ Rows.ledgerJoinsSpec.plain.varTypes Tryz.pinned.checked.prog ++ Tryz.f3.resultTypes.toList).any (Tryz.pinned.checked.prog.veiledRec ·))) = true := by kernel_rfl
theorem ledgerJoins_j31 : (Rows.ledgerJoinsRow.veiledFits Tryz.pinned.checked.prog Tryz.f3.params.toList (Tryz.f3.params.toList ++ Rows.ledgerJoinsSpec.plain.varTypes Tryz.pinned.checked.prog ++ Tryz.f3.resultTypes.toList)) = true := by kernel_rfl
set_option maxRecDepth 100000 in
theorem ledgerJoins_closed : joinedFacts Tryz.pinned.checked.prog 3 Tryz.f3 Rows.ledgerJoinsSpec Rows.ledgerJoinsRow = true := by
  unfold joinedFacts
  exact aT (aT (aT (aT (aT (aT (aT (aT (aT (aT (aT (aT (aT (aT (aT (aT (aT (aT (aT (aT (aT (aT (aT (aT (aT (aT (aT (aT (aT (aT (aT (ledgerJoins_j0) js_1) js_2) ledgerJoins_j3) ledgerJoins_j4) ledgerJoins_j5) ledgerJoins_j6) ledgerJoins_j7) ledgerJoins_j8) ledgerJoins_j9) ledgerJoins_j10) ledgerJoins_j11) ledgerJoins_j12) ledgerJoins_j13) ledgerJoins_j14) ledgerJoins_j15) ledgerJoins_j16) ledgerJoins_j17) ledgerJoins_j18) ledgerJoins_j19) ledgerJoins_j20) ledgerJoins_j21) js_22) ledgerJoins_j23) js_24) js_25) js_26) js_27) ledgerJoins_j28) ledgerJoins_j29) ledgerJoins_j30) ledgerJoins_j31
theorem ledgerJoins_wrap : (Tryz.f3).isWrapper Tryz.pinned.checked.prog Rows.ledgerJoinsRow.wrapper Rows.ledgerJoinsRow.mainSum := by
  unfold Func.isWrapper; rw [if_neg (of_decide_eq_false (by kernel_rfl))]; exact ⟨rfl, rfl⟩
theorem ledgerJoins_inst : (Tryz.f3).isInstance Tryz.pinned.checked.prog Rows.ledgerJoinsRow.origin Rows.ledgerJoinsRow.targs := of_decide_eq_true (by kernel_rfl)
theorem ledgerJoins_fn : Tryz.pinned.checked.prog.funcNamed Rows.ledgerJoinsRow.func = some 3 := by kernel_rfl
theorem ledgerJoins_holds : Rows.LedgerJoinsSaid :=
  OpenClaim.holds_of_wide 3 Tryz.f3 rfl rfl rfl rfl rfl rfl rfl ⟨rfl, rfl, rfl, rfl, rfl⟩ rfl rfl rfl rfl rfl ledgerJoins_fn Tryz.func3 ledgerJoins_closed ledgerJoins_inst ledgerJoins_wrap
    (fun os started H enc _ => ledgerJoins_lifted os started H enc)

end Go.Proofs.YtkojlembanldcaaGreat
