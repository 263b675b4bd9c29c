/- TickReplies: there is one reply for each player and number among the orders, rising, and no other, in the stated form. -/
import Derived.Test.YtkojlembanldcaaGreatRo
import Derived.Test.YtkojlembanldcaaGreatGe
import Derived.Test.YtkojlembanldcaaGreatRd
import Derived.Test.YtkojlembanldcaaGreatGk
set_option linter.unusedSimpArgs false
set_option linter.unusedVariables false
namespace Go.Proofs.YtkojlembanldcaaGreat
open Go Go.RowKit Eng

set_option maxRecDepth 100000 in
theorem tickReplies_lifted (os : Os) (started : os.Started) (H : Type) (enc : TypeId × Value → H) :
    ReturnsInHanded {} Tryz.checked os 12 .any (Rows.tickRepliesSpec.pre6 enc Tryz.prog Tryz.f12 Rows.tickRepliesRow.domain false) (Rows.tickRepliesSpec.post enc Tryz.prog Tryz.f12 false true false false) := by
  refine lifted_true (C := Tryz.checked) (boolT := 4) P_own started (by kernel_rfl) Tryz.func12 P_laid (of_decide_eq_true (by kernel_rfl)) rfl boolUn rfl ?_
    (ChangeSpec.witness6 (enc := enc) (C := Tryz.checked) false ⟨#[], #[.agg #[.int .i64 0, .int .u64 0, .int .i64 0, .slice none 0 0, .slice none 0 0], .slice none 0 0], []⟩ 8 (by kernel_rfl) (by kernel_rfl) (by kernel_rfl) (by kernel_rfl))
    (args_cons ag_world (args_cons ag_orders (args_nil _))) ?_
  · intro ds hd
    match ds, hd with
    | [d1, d2], _ => rfl
  · rintro ⟨w, l, _⟩ ⟨hw, hl, _⟩
    exact treplies_api w l hw.okW (by have h : l.length * 56 ≤ 140737488351232 := hl.2; omega) (fun o ho => ⟨(hl.1 o ho).1.2, (hl.1 o ho).2.2.1.1, (hl.1 o ho).2.2.1.2⟩)

theorem tickReplies_j0 : (Rows.tickRepliesRow.wf (OpenSpec.ofChange Rows.tickRepliesSpec)) = true := by kernel_rfl
theorem tickReplies_j3 : (Tryz.f12.params.all (Tryz.pinned.checked.prog.readableRec ·)) = true := by kernel_rfl
theorem tickReplies_j4 : (namedTie Tryz.pinned.checked.prog Rows.tickRepliesRow.named Rows.tickRepliesSpec.vars) = true := by kernel_rfl
theorem tickReplies_j5 : ((Rows.tickRepliesRow.stops == [])) = true := by kernel_rfl
theorem tickReplies_j6 : ((Tryz.pinned.checked.prog.stops == [])) = true := by kernel_rfl
theorem tickReplies_j7 : ((Rows.tickRepliesRow.knobs == [])) = true := by kernel_rfl
theorem tickReplies_j8 : ((Tryz.pinned.checked.prog.stopKnobs == [])) = true := by kernel_rfl
theorem tickReplies_j9 : ((Rows.tickRepliesRow.inPlace == Tryz.pinned.checked.prog.inPlace 12)) = true := by kernel_rfl
theorem tickReplies_j10 : ((Rows.tickRepliesRow.unfollowed == Tryz.pinned.checked.prog.unfollowed 12)) = true := by kernel_rfl
theorem tickReplies_j11 : ((Rows.tickRepliesRow.recurses == Tryz.pinned.checked.prog.recurses 12)) = true := by kernel_rfl
theorem tickReplies_j12 : ((Rows.tickRepliesRow.named == Tryz.pinned.checked.prog.varsNamed 12)) = true := by kernel_rfl
theorem tickReplies_j13 : ((Rows.tickRepliesRow.maps == (Tryz.f12.params.toList ++ Rows.tickRepliesSpec.plain.varTypes Tryz.pinned.checked.prog).any (Tryz.pinned.checked.prog.mapsRec ·))) = true := by kernel_rfl
theorem tickReplies_j14 : ((Rows.tickRepliesRow.ifaces == (Tryz.f12.params.toList ++ Rows.tickRepliesSpec.plain.varTypes Tryz.pinned.checked.prog).any (Tryz.pinned.checked.prog.ifacesRec ·))) = true := by kernel_rfl
theorem tickReplies_j15 : ((Rows.tickRepliesRow.mapsOut == Tryz.pinned.checked.prog.mapsAmong Tryz.f12.resultTypes.toList)) = true := by kernel_rfl
theorem tickReplies_j16 : ((Rows.tickRepliesRow.loops == (Tryz.f12.params.toList ++ Rows.tickRepliesSpec.plain.varTypes Tryz.pinned.checked.prog).any (Tryz.pinned.checked.prog.loopsFrom ·))) = true := by kernel_rfl
theorem tickReplies_j17 : ((Rows.tickRepliesRow.wideKeys == (Tryz.f12.params.toList ++ Rows.tickRepliesSpec.plain.varTypes Tryz.pinned.checked.prog ++ Tryz.f12.resultTypes.toList).any (Tryz.pinned.checked.prog.wideKeysFrom ·))) = true := by kernel_rfl
theorem tickReplies_j18 : (Rows.tickRepliesSpec.vars.all (Tryz.pinned.checked.prog.varReadable ·)) = true := by kernel_rfl
theorem tickReplies_j19 : (Tryz.f12.resultTypes.all (fun t => Tryz.pinned.checked.prog.readableRec t && decide (t < Tryz.pinned.checked.prog.types.size))) = true := by kernel_rfl
theorem tickReplies_j20 : ((Rows.tickRepliesRow.ifacesOut == Tryz.f12.resultTypes.toList.any (Tryz.pinned.checked.prog.ifacesRec ·))) = true := by kernel_rfl
theorem tickReplies_j21 : ((Rows.tickRepliesRow.loopsOut == Tryz.f12.resultTypes.toList.any (Tryz.pinned.checked.prog.loopsFrom ·))) = true := by kernel_rfl
theorem tickReplies_j23 : (Rows.tickRepliesRow.shortTexts.isNone) = true := by kernel_rfl
theorem tickReplies_j28 : ((Rows.tickRepliesRow.kinds == (if Rows.tickRepliesRow.domain.isEmpty then [] else Tryz.f12.params.toList.map fun t => match Tryz.pinned.checked.prog.underlying t with | some (.int k) => some k | _ => none))) = true := by kernel_rfl
theorem tickReplies_j29 : ((Rows.tickRepliesRow.pinned == Rows.tickRepliesRow.pinnedBy)) = true := by kernel_rfl
theorem tickReplies_j30 : ((Rows.tickRepliesRow.veiled == (Tryz.f12.params.toList ++ Rows.tickRepliesSpec.plain.varTypes Tryz.pinned.checked.prog ++ Tryz.f12.resultTypes.toList).any (Tryz.pinned.checked.prog.veiledRec ·))) = true := by kernel_rfl
theorem tickReplies_j31 : (Rows.tickRepliesRow.veiledFits Tryz.pinned.checked.prog Tryz.f12.params.toList (Tryz.f12.params.toList ++ Rows.tickRepliesSpec.plain.varTypes Tryz.pinned.checked.prog ++ Tryz.f12.resultTypes.toList)) = true := by kernel_rfl
set_option maxRecDepth 100000 in
theorem tickReplies_closed : joinedFacts Tryz.pinned.checked.prog 12 Tryz.f12 Rows.tickRepliesSpec Rows.tickRepliesRow = true := by
  unfold joinedFacts
  exact aT (aT (aT (aT (aT (aT (aT (aT (aT (aT (aT (aT (aT (aT (aT (aT (aT (aT (aT (aT (aT (aT (aT (aT (aT (aT (aT (aT (aT (aT (aT (tickReplies_j0) js_1) js_2) tickReplies_j3) tickReplies_j4) tickReplies_j5) tickReplies_j6) tickReplies_j7) tickReplies_j8) tickReplies_j9) tickReplies_j10) tickReplies_j11) tickReplies_j12) tickReplies_j13) tickReplies_j14) tickReplies_j15) tickReplies_j16) tickReplies_j17) tickReplies_j18) tickReplies_j19) tickReplies_j20) tickReplies_j21) js_22) tickReplies_j23) js_24) js_25) js_26) js_27) tickReplies_j28) tickReplies_j29) tickReplies_j30) tickReplies_j31
theorem tickReplies_wrap : (Tryz.f12).isWrapper Tryz.pinned.checked.prog Rows.tickRepliesRow.wrapper Rows.tickRepliesRow.mainSum := by
  unfold Func.isWrapper; rw [if_neg (of_decide_eq_false (by kernel_rfl))]; exact ⟨rfl, rfl⟩
theorem tickReplies_inst : (Tryz.f12).isInstance Tryz.pinned.checked.prog Rows.tickRepliesRow.origin Rows.tickRepliesRow.targs := of_decide_eq_true (by kernel_rfl)
theorem tickReplies_fn : Tryz.pinned.checked.prog.funcNamed Rows.tickRepliesRow.func = some 12 := by kernel_rfl
theorem tickReplies_holds : Rows.TickRepliesSaid :=
  OpenClaim.holds_of_wide 12 Tryz.f12 rfl rfl rfl rfl rfl rfl rfl ⟨rfl, rfl, rfl, rfl, rfl⟩ rfl rfl rfl rfl rfl tickReplies_fn Tryz.func12 tickReplies_closed tickReplies_inst tickReplies_wrap
    (fun os started H enc _ => tickReplies_lifted os started H enc)

end Go.Proofs.YtkojlembanldcaaGreat
