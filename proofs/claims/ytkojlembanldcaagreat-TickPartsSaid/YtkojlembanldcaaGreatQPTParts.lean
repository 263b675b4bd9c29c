/- TickParts: a tick of orders is the tick of those up to a player, and then of the others, but that it is one tick, in the stated form. -/
import Derived.Test.YtkojlembanldcaaGreatRn
import Derived.Test.YtkojlembanldcaaGreatGe
import Derived.Test.YtkojlembanldcaaGreatRd
import Derived.Test.YtkojlembanldcaaGreatGk
set_option linter.unusedSimpArgs false
set_option linter.unusedVariables false
namespace Go.Proofs.YtkojlembanldcaaGreat
open Go Go.RowKit Eng

set_option maxRecDepth 100000 in
theorem tickParts_lifted (os : Os) (started : os.Started) (H : Type) (enc : TypeId × Value → H) :
    ReturnsInHanded {} Tryz.checked os 14 .any (Rows.tickPartsSpec.pre6 enc Tryz.prog Tryz.f14 Rows.tickPartsRow.domain false) (Rows.tickPartsSpec.post enc Tryz.prog Tryz.f14 false true false false) := by
  refine lifted_true (C := Tryz.checked) (boolT := 4) P_own started (by kernel_rfl) Tryz.func14 P_laid (of_decide_eq_true (by kernel_rfl)) rfl boolUn rfl ?_
    (ChangeSpec.witness6 (enc := enc) (C := Tryz.checked) false ⟨#[], #[.agg #[.int .i64 0, .int .u64 0, .int .i64 0, .slice none 0 0, .slice none 0 0], .slice none 0 0, .int .i64 0], []⟩ 8 (by kernel_rfl) (by kernel_rfl) (by kernel_rfl) (by kernel_rfl))
    (args_cons ag_world (args_cons ag_orders (args_cons ag_int (args_nil _)))) ?_
  · intro ds hd
    match ds, hd with
    | [d1, d2, d3], _ => rfl
  · rintro ⟨w, l, n, _⟩ ⟨hw, hl, hn, _⟩
    exact tparts_api w l n hw.okW (by have h : l.length * 56 ≤ 140737488351232 := hl.2; omega) (fun o ho => ⟨(hl.1 o ho).1.2, (hl.1 o ho).2.2.1.1, (hl.1 o ho).2.2.1.2⟩)

theorem tickParts_j0 : (Rows.tickPartsRow.wf (OpenSpec.ofChange Rows.tickPartsSpec)) = true := by kernel_rfl
theorem tickParts_j3 : (Tryz.f14.params.all (Tryz.pinned.checked.prog.readableRec ·)) = true := by kernel_rfl
theorem tickParts_j4 : (namedTie Tryz.pinned.checked.prog Rows.tickPartsRow.named Rows.tickPartsSpec.vars) = true := by kernel_rfl
theorem tickParts_j5 : ((Rows.tickPartsRow.stops == [])) = true := by kernel_rfl
theorem tickParts_j6 : ((Tryz.pinned.checked.prog.stops == [])) = true := by kernel_rfl
theorem tickParts_j7 : ((Rows.tickPartsRow.knobs == [])) = true := by kernel_rfl
theorem tickParts_j8 : ((Tryz.pinned.checked.prog.stopKnobs == [])) = true := by kernel_rfl
theorem tickParts_j9 : ((Rows.tickPartsRow.inPlace == Tryz.pinned.checked.prog.inPlace 14)) = true := by kernel_rfl
theorem tickParts_j10 : ((Rows.tickPartsRow.unfollowed == Tryz.pinned.checked.prog.unfollowed 14)) = true := by kernel_rfl
theorem tickParts_j11 : ((Rows.tickPartsRow.recurses == Tryz.pinned.checked.prog.recurses 14)) = true := by kernel_rfl
theorem tickParts_j12 : ((Rows.tickPartsRow.named == Tryz.pinned.checked.prog.varsNamed 14)) = true := by kernel_rfl
theorem tickParts_j13 : ((Rows.tickPartsRow.maps == (Tryz.f14.params.toList ++ Rows.tickPartsSpec.plain.varTypes Tryz.pinned.checked.prog).any (Tryz.pinned.checked.prog.mapsRec ·))) = true := by kernel_rfl
theorem tickParts_j14 : ((Rows.tickPartsRow.ifaces == (Tryz.f14.params.toList ++ Rows.tickPartsSpec.plain.varTypes Tryz.pinned.checked.prog).any (Tryz.pinned.checked.prog.ifacesRec ·))) = true := by kernel_rfl
theorem tickParts_j15 : ((Rows.tickPartsRow.mapsOut == Tryz.pinned.checked.prog.mapsAmong Tryz.f14.resultTypes.toList)) = true := by kernel_rfl
theorem tickParts_j16 : ((Rows.tickPartsRow.loops == (Tryz.f14.params.toList ++ Rows.tickPartsSpec.plain.varTypes Tryz.pinned.checked.prog).any (Tryz.pinned.checked.prog.loopsFrom ·))) = true := by kernel_rfl
theorem tickParts_j17 : ((Rows.tickPartsRow.wideKeys == (Tryz.f14.params.toList ++ Rows.tickPartsSpec.plain.varTypes Tryz.pinned.checked.prog ++ Tryz.f14.resultTypes.toList).any (Tryz.pinned.checked.prog.wideKeysFrom ·))) = true := by kernel_rfl
theorem tickParts_j18 : (Rows.tickPartsSpec.vars.all (Tryz.pinned.checked.prog.varReadable ·)) = true := by kernel_rfl
theorem tickParts_j19 : (Tryz.f14.resultTypes.all (fun t => Tryz.pinned.checked.prog.readableRec t && decide (t < Tryz.pinned.checked.prog.types.size))) = true := by kernel_rfl
theorem tickParts_j20 : ((Rows.tickPartsRow.ifacesOut == Tryz.f14.resultTypes.toList.any (Tryz.pinned.checked.prog.ifacesRec ·))) = true := by kernel_rfl
theorem tickParts_j21 : ((Rows.tickPartsRow.loopsOut == Tryz.f14.resultTypes.toList.any (Tryz.pinned.checked.prog.loopsFrom ·))) = true := by kernel_rfl
theorem tickParts_j23 : (Rows.tickPartsRow.shortTexts.isNone) = true := by kernel_rfl
theorem tickParts_j28 : ((Rows.tickPartsRow.kinds == (if Rows.tickPartsRow.domain.isEmpty then [] else Tryz.f14.params.toList.map fun t => match Tryz.pinned.checked.prog.underlying t with | some (.int k) => some k | _ => none))) = true := by kernel_rfl
theorem tickParts_j29 : ((Rows.tickPartsRow.pinned == Rows.tickPartsRow.pinnedBy)) = true := by kernel_rfl
theorem tickParts_j30 : ((Rows.tickPartsRow.veiled == (Tryz.f14.params.toList ++ Rows.tickPartsSpec.plain.varTypes Tryz.pinned.checked.prog ++ Tryz.f14.resultTypes.toList).any (Tryz.pinned.checked.prog.veiledRec ·))) = true := by kernel_rfl
theorem tickParts_j31 : (Rows.tickPartsRow.veiledFits Tryz.pinned.checked.prog Tryz.f14.params.toList (Tryz.f14.params.toList ++ Rows.tickPartsSpec.plain.varTypes Tryz.pinned.checked.prog ++ Tryz.f14.resultTypes.toList)) = true := by kernel_rfl
set_option maxRecDepth 100000 in
theorem tickParts_closed : joinedFacts Tryz.pinned.checked.prog 14 Tryz.f14 Rows.tickPartsSpec Rows.tickPartsRow = true := by
  unfold joinedFacts
  exact aT (aT (aT (aT (aT (aT (aT (aT (aT (aT (aT (aT (aT (aT (aT (aT (aT (aT (aT (aT (aT (aT (aT (aT (aT (aT (aT (aT (aT (aT (aT (tickParts_j0) js_1) js_2) tickParts_j3) tickParts_j4) tickParts_j5) tickParts_j6) tickParts_j7) tickParts_j8) tickParts_j9) tickParts_j10) tickParts_j11) tickParts_j12) tickParts_j13) tickParts_j14) tickParts_j15) tickParts_j16) tickParts_j17) tickParts_j18) tickParts_j19) tickParts_j20) tickParts_j21) js_22) tickParts_j23) js_24) js_25) js_26) js_27) tickParts_j28) tickParts_j29) tickParts_j30) tickParts_j31
theorem tickParts_wrap : (Tryz.f14).isWrapper Tryz.pinned.checked.prog Rows.tickPartsRow.wrapper Rows.tickPartsRow.mainSum := by
  unfold Func.isWrapper; rw [if_neg (of_decide_eq_false (by kernel_rfl))]; exact ⟨rfl, rfl⟩
theorem tickParts_inst : (Tryz.f14).isInstance Tryz.pinned.checked.prog Rows.tickPartsRow.origin Rows.tickPartsRow.targs := of_decide_eq_true (by kernel_rfl)
theorem tickParts_fn : Tryz.pinned.checked.prog.funcNamed Rows.tickPartsRow.func = some 14 := by kernel_rfl
theorem tickParts_holds : Rows.TickPartsSaid :=
  OpenClaim.holds_of_wide 14 Tryz.f14 rfl rfl rfl rfl rfl rfl rfl ⟨rfl, rfl, rfl, rfl, rfl⟩ rfl rfl rfl rfl rfl tickParts_fn Tryz.func14 tickParts_closed tickParts_inst tickParts_wrap
    (fun os started H enc _ => tickParts_lifted os started H enc)

end Go.Proofs.YtkojlembanldcaaGreat
