/- TickSorts: sorted orders rise, each player and number once; sorted again they stay; and they are just those that were handed in, in the stated form. -/
import Derived.Test.YtkojlembanldcaaGreatRl
import Derived.Test.YtkojlembanldcaaGreatRd
import Derived.Test.YtkojlembanldcaaGreatGk
set_option linter.unusedSimpArgs false
set_option linter.unusedVariables false
namespace Go.Proofs.YtkojlembanldcaaGreat
open Go Go.RowKit Eng

set_option maxRecDepth 100000 in
theorem tickSorts_lifted (os : Os) (started : os.Started) (H : Type) (enc : TypeId × Value → H) :
    ReturnsInHanded {} Tryz.checked os 13 .any (Rows.tickSortsSpec.pre6 enc Tryz.prog Tryz.f13 Rows.tickSortsRow.domain false) (Rows.tickSortsSpec.post enc Tryz.prog Tryz.f13 false true false false) := by
  refine lifted_true (C := Tryz.checked) (boolT := 4) P_own started (by kernel_rfl) Tryz.func13 P_laid (of_decide_eq_true (by kernel_rfl)) rfl boolUn rfl ?_
    (ChangeSpec.witness6 (enc := enc) (C := Tryz.checked) false ⟨#[], #[.slice none 0 0], []⟩ 8 (by kernel_rfl) (by kernel_rfl) (by kernel_rfl) (by kernel_rfl))
    (args_cons ag_orders (args_nil _)) ?_
  · intro ds hd
    match ds, hd with
    | [d1], _ => rfl
  · rintro ⟨l, _⟩ ⟨hl, _⟩
    exact tsorts_api l (by have h : l.length * 56 ≤ 140737488351232 := hl.2; omega)

theorem tickSorts_j0 : (Rows.tickSortsRow.wf (OpenSpec.ofChange Rows.tickSortsSpec)) = true := by kernel_rfl
theorem tickSorts_j3 : (Tryz.f13.params.all (Tryz.pinned.checked.prog.readableRec ·)) = true := by kernel_rfl
theorem tickSorts_j4 : (namedTie Tryz.pinned.checked.prog Rows.tickSortsRow.named Rows.tickSortsSpec.vars) = true := by kernel_rfl
theorem tickSorts_j5 : ((Rows.tickSortsRow.stops == [])) = true := by kernel_rfl
theorem tickSorts_j6 : ((Tryz.pinned.checked.prog.stops == [])) = true := by kernel_rfl
theorem tickSorts_j7 : ((Rows.tickSortsRow.knobs == [])) = true := by kernel_rfl
theorem tickSorts_j8 : ((Tryz.pinned.checked.prog.stopKnobs == [])) = true := by kernel_rfl
theorem tickSorts_j9 : ((Rows.tickSortsRow.inPlace == Tryz.pinned.checked.prog.inPlace 13)) = true := by kernel_rfl
theorem tickSorts_j10 : ((Rows.tickSortsRow.unfollowed == Tryz.pinned.checked.prog.unfollowed 13)) = true := by kernel_rfl
theorem tickSorts_j11 : ((Rows.tickSortsRow.recurses == Tryz.pinned.checked.prog.recurses 13)) = true := by kernel_rfl
theorem tickSorts_j12 : ((Rows.tickSortsRow.named == Tryz.pinned.checked.prog.varsNamed 13)) = true := by kernel_rfl
theorem tickSorts_j13 : ((Rows.tickSortsRow.maps == (Tryz.f13.params.toList ++ Rows.tickSortsSpec.plain.varTypes Tryz.pinned.checked.prog).any (Tryz.pinned.checked.prog.mapsRec ·))) = true := by kernel_rfl
theorem tickSorts_j14 : ((Rows.tickSortsRow.ifaces == (Tryz.f13.params.toList ++ Rows.tickSortsSpec.plain.varTypes Tryz.pinned.checked.prog).any (Tryz.pinned.checked.prog.ifacesRec ·))) = true := by kernel_rfl
theorem tickSorts_j15 : ((Rows.tickSortsRow.mapsOut == Tryz.pinned.checked.prog.mapsAmong Tryz.f13.resultTypes.toList)) = true := by kernel_rfl
theorem tickSorts_j16 : ((Rows.tickSortsRow.loops == (Tryz.f13.params.toList ++ Rows.tickSortsSpec.plain.varTypes Tryz.pinned.checked.prog).any (Tryz.pinned.checked.prog.loopsFrom ·))) = true := by kernel_rfl
theorem tickSorts_j17 : ((Rows.tickSortsRow.wideKeys == (Tryz.f13.params.toList ++ Rows.tickSortsSpec.plain.varTypes Tryz.pinned.checked.prog ++ Tryz.f13.resultTypes.toList).any (Tryz.pinned.checked.prog.wideKeysFrom ·))) = true := by kernel_rfl
theorem tickSorts_j18 : (Rows.tickSortsSpec.vars.all (Tryz.pinned.checked.prog.varReadable ·)) = true := by kernel_rfl
theorem tickSorts_j19 : (Tryz.f13.resultTypes.all (fun t => Tryz.pinned.checked.prog.readableRec t && decide (t < Tryz.pinned.checked.prog.types.size))) = true := by kernel_rfl
theorem tickSorts_j20 : ((Rows.tickSortsRow.ifacesOut == Tryz.f13.resultTypes.toList.any (Tryz.pinned.checked.prog.ifacesRec ·))) = true := by kernel_rfl
theorem tickSorts_j21 : ((Rows.tickSortsRow.loopsOut == Tryz.f13.resultTypes.toList.any (Tryz.pinned.checked.prog.loopsFrom ·))) = true := by kernel_rfl
theorem tickSorts_j23 : (Rows.tickSortsRow.shortTexts.isNone) = true := by kernel_rfl
theorem tickSorts_j28 : ((Rows.tickSortsRow.kinds == (if Rows.tickSortsRow.domain.isEmpty then [] else Tryz.f13.params.toList.map fun t => match Tryz.pinned.checked.prog.underlying t with | some (.int k) => some k | _ => none))) = true := by kernel_rfl
theorem tickSorts_j29 : ((Rows.tickSortsRow.pinned == Rows.tickSortsRow.pinnedBy)) = true := by kernel_rfl
theorem tickSorts_j30 : ((Rows.tickSortsRow.veiled == (Tryz.f13.params.toList ++ Rows.tickSortsSpec.plain.varTypes Tryz.pinned.checked.prog ++ Tryz.f13.resultTypes.toList).any (Tryz.pinned.checked.prog.veiledRec ·))) = true := by kernel_rfl
theorem tickSorts_j31 : (Rows.tickSortsRow.veiledFits Tryz.pinned.checked.prog Tryz.f13.params.toList (Tryz.f13.params.toList ++ Rows.tickSortsSpec.plain.varTypes Tryz.pinned.checked.prog ++ Tryz.f13.resultTypes.toList)) = true := by kernel_rfl
set_option maxRecDepth 100000 in
theorem tickSorts_closed : joinedFacts Tryz.pinned.checked.prog 13 Tryz.f13 Rows.tickSortsSpec Rows.tickSortsRow = true := by
  unfold joinedFacts
  exact aT (aT (aT (aT (aT (aT (aT (aT (aT (aT (aT (aT (aT (aT (aT (aT (aT (aT (aT (aT (aT (aT (aT (aT (aT (aT (aT (aT (aT (aT (aT (tickSorts_j0) js_1) js_2) tickSorts_j3) tickSorts_j4) tickSorts_j5) tickSorts_j6) tickSorts_j7) tickSorts_j8) tickSorts_j9) tickSorts_j10) tickSorts_j11) tickSorts_j12) tickSorts_j13) tickSorts_j14) tickSorts_j15) tickSorts_j16) tickSorts_j17) tickSorts_j18) tickSorts_j19) tickSorts_j20) tickSorts_j21) js_22) tickSorts_j23) js_24) js_25) js_26) js_27) tickSorts_j28) tickSorts_j29) tickSorts_j30) tickSorts_j31
theorem tickSorts_wrap : (Tryz.f13).isWrapper Tryz.pinned.checked.prog Rows.tickSortsRow.wrapper Rows.tickSortsRow.mainSum := by
  unfold Func.isWrapper; rw [if_neg (of_decide_eq_false (by kernel_rfl))]; exact ⟨rfl, rfl⟩
theorem tickSorts_inst : (Tryz.f13).isInstance Tryz.pinned.checked.prog Rows.tickSortsRow.origin Rows.tickSortsRow.targs := of_decide_eq_true (by kernel_rfl)
theorem tickSorts_fn : Tryz.pinned.checked.prog.funcNamed Rows.tickSortsRow.func = some 13 := by kernel_rfl
theorem tickSorts_holds : Rows.TickSortsSaid :=
  OpenClaim.holds_of_wide 13 Tryz.f13 rfl rfl rfl rfl rfl rfl rfl ⟨rfl, rfl, rfl, rfl, rfl⟩ rfl rfl rfl rfl rfl tickSorts_fn Tryz.func13 tickSorts_closed tickSorts_inst tickSorts_wrap
    (fun os started H enc _ => tickSorts_lifted os started H enc)

end Go.Proofs.YtkojlembanldcaaGreat
