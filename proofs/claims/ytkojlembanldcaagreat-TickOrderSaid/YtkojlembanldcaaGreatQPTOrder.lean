/- homesteadlaw17.TickOrder. -/
import Derived.Test.YtkojlembanldcaaGreatRu
import Derived.Test.YtkojlembanldcaaGreatGe
import Derived.Test.YtkojlembanldcaaGreatRd
import Derived.Test.YtkojlembanldcaaGreatGk
set_option linter.unusedSimpArgs false
set_option linter.unusedVariables false
namespace Go.Proofs.YtkojlembanldcaaGreat
open Go Go.RowKit Eng

set_option maxRecDepth 100000 in
theorem tickOrder_lifted (os : Os) (started : os.Started) (H : Type) (enc : TypeId × Value → H) :
    ReturnsInHanded {} Tryz.checked os 15 .any (Rows.tickOrderSpec.pre6 enc Tryz.prog Tryz.f15 Rows.tickOrderRow.domain false) (Rows.tickOrderSpec.post enc Tryz.prog Tryz.f15 false true false false) := by
  refine lifted_true (C := Tryz.checked) (boolT := 4) P_own started (by kernel_rfl) Tryz.func15 P_laid (of_decide_eq_true (by kernel_rfl)) rfl boolUn rfl ?_
    (ChangeSpec.witness6 (enc := enc) (C := Tryz.checked) false ⟨#[], #[.agg #[.int .i64 0, .int .u64 0, .int .i64 0, .slice none 0 0, .slice none 0 0], .slice none 0 0, .agg #[.int .i64 0, .int .i64 0]], []⟩ 8 (by kernel_rfl) (by kernel_rfl) (by kernel_rfl) (by kernel_rfl))
    (args_cons ag_world (args_cons ag_orders (args_cons ag_2int (args_nil _)))) ?_
  · intro ds hd
    match ds, hd with
    | [d1, d2, d3], _ => rfl
  · rintro ⟨w, l, ⟨p, q⟩, _⟩ ⟨hw, hl, hn, _⟩
    exact torder_api w l p q hw.okW (by have h : l.length * 56 ≤ 140737488351232 := hl.2; omega) (fun o ho => ⟨(hl.1 o ho).1.2, (hl.1 o ho).2.2.1.1, (hl.1 o ho).2.2.1.2⟩)

theorem tickOrder_j0 : (Rows.tickOrderRow.wf (OpenSpec.ofChange Rows.tickOrderSpec)) = true := by kernel_rfl
theorem tickOrder_j3 : (Tryz.f15.params.all (Tryz.pinned.checked.prog.readableRec ·)) = true := by kernel_rfl
theorem tickOrder_j4 : (namedTie Tryz.pinned.checked.prog Rows.tickOrderRow.named Rows.tickOrderSpec.vars) = true := by kernel_rfl
theorem tickOrder_j5 : ((Rows.tickOrderRow.stops == [])) = true := by kernel_rfl
theorem tickOrder_j6 : ((Tryz.pinned.checked.prog.stops == [])) = true := by kernel_rfl
theorem tickOrder_j7 : ((Rows.tickOrderRow.knobs == [])) = true := by kernel_rfl
theorem tickOrder_j8 : ((Tryz.pinned.checked.prog.stopKnobs == [])) = true := by kernel_rfl
theorem tickOrder_j9 : ((Rows.tickOrderRow.inPlace == Tryz.pinned.checked.prog.inPlace 15)) = true := by kernel_rfl
theorem tickOrder_j10 : ((Rows.tickOrderRow.unfollowed == Tryz.pinned.checked.prog.unfollowed 15)) = true := by kernel_rfl
theorem tickOrder_j11 : ((Rows.tickOrderRow.recurses == Tryz.pinned.checked.prog.recurses 15)) = true := by kernel_rfl
theorem tickOrder_j12 : ((Rows.tickOrderRow.named == Tryz.pinned.checked.prog.varsNamed 15)) = true := by kernel_rfl
theorem tickOrder_j13 : ((Rows.tickOrderRow.maps == (Tryz.f15.params.toList ++ Rows.tickOrderSpec.plain.varTypes Tryz.pinned.checked.prog).any (Tryz.pinned.checked.prog.mapsRec ·))) = true := by kernel_rfl
theorem tickOrder_j14 : ((Rows.tickOrderRow.ifaces == (Tryz.f15.params.toList ++ Rows.tickOrderSpec.plain.varTypes Tryz.pinned.checked.prog).any (Tryz.pinned.checked.prog.ifacesRec ·))) = true := by kernel_rfl
theorem tickOrder_j15 : ((Rows.tickOrderRow.mapsOut == Tryz.pinned.checked.prog.mapsAmong Tryz.f15.resultTypes.toList)) = true := by kernel_rfl
theorem tickOrder_j16 : ((Rows.tickOrderRow.loops == (Tryz.f15.params.toList ++ Rows.tickOrderSpec.plain.varTypes Tryz.pinned.checked.prog).any (Tryz.pinned.checked.prog.loopsFrom ·))) = true := by kernel_rfl
theorem tickOrder_j17 : ((Rows.tickOrderRow.wideKeys == (Tryz.f15.params.toList ++ Rows.tickOrderSpec.plain.varTypes Tryz.pinned.checked.prog ++ Tryz.f15.resultTypes.toList).any (Tryz.pinned.checked.prog.wideKeysFrom ·))) = true := by kernel_rfl
theorem tickOrder_j18 : (Rows.tickOrderSpec.vars.all (Tryz.pinned.checked.prog.varReadable ·)) = true := by kernel_rfl
theorem tickOrder_j19 : (Tryz.f15.resultTypes.all (fun t => Tryz.pinned.checked.prog.readableRec t && decide (t < Tryz.pinned.checked.prog.types.size))) = true := by kernel_rfl
theorem tickOrder_j20 : ((Rows.tickOrderRow.ifacesOut == Tryz.f15.resultTypes.toList.any (Tryz.pinned.checked.prog.ifacesRec ·))) = true := by kernel_rfl
theorem tickOrder_j21 : ((Rows.tickOrderRow.loopsOut == Tryz.f15.resultTypes.toList.any (Tryz.pinned.checked.prog.loopsFrom ·))) = true := by kernel_rfl
theorem tickOrder_j23 : (Rows.tickOrderRow.shortTexts.isNone) = true := by kernel_rfl
theorem tickOrder_j28 : ((Rows.tickOrderRow.kinds == (if Rows.tickOrderRow.domain.isEmpty then [] else Tryz.f15.params.toList.map fun t => match Tryz.pinned.checked.prog.underlying t with | some (.int k) => some k | _ => none))) = true := by kernel_rfl
theorem tickOrder_j29 : ((Rows.tickOrderRow.pinned == Rows.tickOrderRow.pinnedBy)) = true := by kernel_rfl
theorem tickOrder_j30 : ((Rows.tickOrderRow.veiled == (Tryz.f15.params.toList ++ Rows.tickOrderSpec.plain.varTypes Tryz.pinned.checked.prog ++ Tryz.f15.resultTypes.toList).any (Tryz.pinned.checked.prog.veiledRec ·))) = true := by kernel_rfl
theorem tickOrder_j31 : (Rows.tickOrderRow.veiledFits Tryz.pinned.checked.prog Tryz.f15.params.toList (Tryz.f15.params.toList ++ Rows.tickOrderSpec.plain.varTypes Tryz.pinned.checked.prog ++ Tryz.f15.resultTypes.toList)) = true := by kernel_rfl
set_option maxRecDepth 100000 in
theorem tickOrder_closed : joinedFacts Tryz.pinned.checked.prog 15 Tryz.f15 Rows.tickOrderSpec Rows.tickOrderRow = true := by
  unfold joinedFacts
  exact aT (aT (aT (aT (aT (aT (aT (aT (aT (aT (aT (aT (aT (aT (aT (aT (aT (aT (aT (aT (aT (aT (aT (aT (aT (aT (aT (aT (aT (aT (aT (tickOrder_j0) js_1) js_2) tickOrder_j3) tickOrder_j4) tickOrder_j5) tickOrder_j6) tickOrder_j7) tickOrder_j8) tickOrder_j9) tickOrder_j10) tickOrder_j11) tickOrder_j12) tickOrder_j13) tickOrder_j14) tickOrder_j15) tickOrder_j16) tickOrder_j17) tickOrder_j18) tickOrder_j19) tickOrder_j20) tickOrder_j21) js_22) tickOrder_j23) js_24) js_25) js_26) js_27) tickOrder_j28) tickOrder_j29) tickOrder_j30) tickOrder_j31
theorem tickOrder_wrap : (Tryz.f15).isWrapper Tryz.pinned.checked.prog Rows.tickOrderRow.wrapper Rows.tickOrderRow.mainSum := by
  unfold Func.isWrapper; rw [if_neg (of_decide_eq_false (by kernel_rfl))]; exact ⟨rfl, rfl⟩
theorem tickOrder_inst : (Tryz.f15).isInstance Tryz.pinned.checked.prog Rows.tickOrderRow.origin Rows.tickOrderRow.targs := of_decide_eq_true (by kernel_rfl)
theorem tickOrder_fn : Tryz.pinned.checked.prog.funcNamed Rows.tickOrderRow.func = some 15 := by kernel_rfl
theorem tickOrder_holds : Rows.TickOrderSaid :=
  OpenClaim.holds_of_wide 15 Tryz.f15 rfl rfl rfl rfl rfl rfl rfl ⟨rfl, rfl, rfl, rfl, rfl⟩ rfl rfl rfl rfl rfl tickOrder_fn Tryz.func15 tickOrder_closed tickOrder_inst tickOrder_wrap
    (fun os started H enc _ => tickOrder_lifted os started H enc)

end Go.Proofs.YtkojlembanldcaaGreat
