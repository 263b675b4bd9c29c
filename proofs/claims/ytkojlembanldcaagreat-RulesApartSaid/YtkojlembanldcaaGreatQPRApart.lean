/- RulesApart: two players who are far from one another act in whatever order, in the stated form. -/
import Derived.Test.YtkojlembanldcaaGreatRj
import Derived.Test.YtkojlembanldcaaGreatGe
import Derived.Test.YtkojlembanldcaaGreatRd
import Derived.Test.YtkojlembanldcaaGreatGk
set_option linter.unusedSimpArgs false
set_option linter.unusedVariables false
namespace Go.Proofs.YtkojlembanldcaaGreat
open Go Go.RowKit Eng

set_option maxRecDepth 100000 in
theorem rulesApart_lifted (os : Os) (started : os.Started) (H : Type) (enc : TypeId × Value → H) :
    ReturnsInHanded {} Tryz.checked os 6 .any (Rows.rulesApartSpec.pre6 enc Tryz.prog Tryz.f6 Rows.rulesApartRow.domain false) (Rows.rulesApartSpec.post enc Tryz.prog Tryz.f6 false true false false) := by
  refine lifted_true (C := Tryz.checked) (boolT := 4) P_own started (by kernel_rfl) Tryz.func6 P_laid (of_decide_eq_true (by kernel_rfl)) rfl boolUn rfl ?_
    (ChangeSpec.witness6 (enc := enc) (C := Tryz.checked) false ⟨#[], #[.agg #[.int .i64 0, .int .u64 0, .int .i64 0, .slice none 0 0, .slice none 0 0], .agg #[.int .i64 0, .int .u8 0, .int .i64 0, .int .i64 0, .int .i64 0, .int .i64 0], .agg #[.int .i64 0, .int .u8 0, .int .i64 0, .int .i64 0, .int .i64 0, .int .i64 0]], []⟩ 8 (by kernel_rfl) (by kernel_rfl) (by kernel_rfl) (by kernel_rfl))
    (args_cons ag_world (args_cons ag_doo (args_cons ag_doo (args_nil _)))) ?_
  · intro ds hd
    match ds, hd with
    | [d1, d2, d3], _ => rfl
  · rintro ⟨w, a, b, _⟩ ⟨hw, ha, hb, _⟩
    exact rapart_api w a.id b.id a.cmd b.cmd hw.okW ha.ok.1 hb.ok.1 ha.ok.2 hb.ok.2

theorem rulesApart_j0 : (Rows.rulesApartRow.wf (OpenSpec.ofChange Rows.rulesApartSpec)) = true := by kernel_rfl
theorem rulesApart_j3 : (Tryz.f6.params.all (Tryz.pinned.checked.prog.readableRec ·)) = true := by kernel_rfl
theorem rulesApart_j4 : (namedTie Tryz.pinned.checked.prog Rows.rulesApartRow.named Rows.rulesApartSpec.vars) = true := by kernel_rfl
theorem rulesApart_j5 : ((Rows.rulesApartRow.stops == [])) = true := by kernel_rfl
theorem rulesApart_j6 : ((Tryz.pinned.checked.prog.stops == [])) = true := by kernel_rfl
theorem rulesApart_j7 : ((Rows.rulesApartRow.knobs == [])) = true := by kernel_rfl
theorem rulesApart_j8 : ((Tryz.pinned.checked.prog.stopKnobs == [])) = true := by kernel_rfl
theorem rulesApart_j9 : ((Rows.rulesApartRow.inPlace == Tryz.pinned.checked.prog.inPlace 6)) = true := by kernel_rfl
theorem rulesApart_j10 : ((Rows.rulesApartRow.unfollowed == Tryz.pinned.checked.prog.unfollowed 6)) = true := by kernel_rfl
theorem rulesApart_j11 : ((Rows.rulesApartRow.recurses == Tryz.pinned.checked.prog.recurses 6)) = true := by kernel_rfl
theorem rulesApart_j12 : ((Rows.rulesApartRow.named == Tryz.pinned.checked.prog.varsNamed 6)) = true := by kernel_rfl
theorem rulesApart_j13 : ((Rows.rulesApartRow.maps == (Tryz.f6.params.toList ++ Rows.rulesApartSpec.plain.varTypes Tryz.pinned.checked.prog).any (Tryz.pinned.checked.prog.mapsRec ·))) = true := by kernel_rfl
theorem rulesApart_j14 : ((Rows.rulesApartRow.ifaces == (Tryz.f6.params.toList ++ Rows.rulesApartSpec.plain.varTypes Tryz.pinned.checked.prog).any (Tryz.pinned.checked.prog.ifacesRec ·))) = true := by kernel_rfl
theorem rulesApart_j15 : ((Rows.rulesApartRow.mapsOut == Tryz.pinned.checked.prog.mapsAmong Tryz.f6.resultTypes.toList)) = true := by kernel_rfl
theorem rulesApart_j16 : ((Rows.rulesApartRow.loops == (Tryz.f6.params.toList ++ Rows.rulesApartSpec.plain.varTypes Tryz.pinned.checked.prog).any (Tryz.pinned.checked.prog.loopsFrom ·))) = true := by kernel_rfl
theorem rulesApart_j17 : ((Rows.rulesApartRow.wideKeys == (Tryz.f6.params.toList ++ Rows.rulesApartSpec.plain.varTypes Tryz.pinned.checked.prog ++ Tryz.f6.resultTypes.toList).any (Tryz.pinned.checked.prog.wideKeysFrom ·))) = true := by kernel_rfl
theorem rulesApart_j18 : (Rows.rulesApartSpec.vars.all (Tryz.pinned.checked.prog.varReadable ·)) = true := by kernel_rfl
theorem rulesApart_j19 : (Tryz.f6.resultTypes.all (fun t => Tryz.pinned.checked.prog.readableRec t && decide (t < Tryz.pinned.checked.prog.types.size))) = true := by kernel_rfl
theorem rulesApart_j20 : ((Rows.rulesApartRow.ifacesOut == Tryz.f6.resultTypes.toList.any (Tryz.pinned.checked.prog.ifacesRec ·))) = true := by kernel_rfl
theorem rulesApart_j21 : ((Rows.rulesApartRow.loopsOut == Tryz.f6.resultTypes.toList.any (Tryz.pinned.checked.prog.loopsFrom ·))) = true := by kernel_rfl
theorem rulesApart_j23 : (Rows.rulesApartRow.shortTexts.isNone) = true := by kernel_rfl
theorem rulesApart_j28 : ((Rows.rulesApartRow.kinds == (if Rows.rulesApartRow.domain.isEmpty then [] else Tryz.f6.params.toList.map fun t => match Tryz.pinned.checked.prog.underlying t with | some (.int k) => some k | _ => none))) = true := by kernel_rfl
theorem rulesApart_j29 : ((Rows.rulesApartRow.pinned == Rows.rulesApartRow.pinnedBy)) = true := by kernel_rfl
theorem rulesApart_j30 : ((Rows.rulesApartRow.veiled == (Tryz.f6.params.toList ++ Rows.rulesApartSpec.plain.varTypes Tryz.pinned.checked.prog ++ Tryz.f6.resultTypes.toList).any (Tryz.pinned.checked.prog.veiledRec ·))) = true := by kernel_rfl
theorem rulesApart_j31 : (Rows.rulesApartRow.veiledFits Tryz.pinned.checked.prog Tryz.f6.params.toList (Tryz.f6.params.toList ++ Rows.rulesApartSpec.plain.varTypes Tryz.pinned.checked.prog ++ Tryz.f6.resultTypes.toList)) = true := by kernel_rfl
set_option maxRecDepth 100000 in
theorem rulesApart_closed : joinedFacts Tryz.pinned.checked.prog 6 Tryz.f6 Rows.rulesApartSpec Rows.rulesApartRow = true := by
  unfold joinedFacts
  exact aT (aT (aT (aT (aT (aT (aT (aT (aT (aT (aT (aT (aT (aT (aT (aT (aT (aT (aT (aT (aT (aT (aT (aT (aT (aT (aT (aT (aT (aT (aT (rulesApart_j0) js_1) js_2) rulesApart_j3) rulesApart_j4) rulesApart_j5) rulesApart_j6) rulesApart_j7) rulesApart_j8) rulesApart_j9) rulesApart_j10) rulesApart_j11) rulesApart_j12) rulesApart_j13) rulesApart_j14) rulesApart_j15) rulesApart_j16) rulesApart_j17) rulesApart_j18) rulesApart_j19) rulesApart_j20) rulesApart_j21) js_22) rulesApart_j23) js_24) js_25) js_26) js_27) rulesApart_j28) rulesApart_j29) rulesApart_j30) rulesApart_j31
theorem rulesApart_wrap : (Tryz.f6).isWrapper Tryz.pinned.checked.prog Rows.rulesApartRow.wrapper Rows.rulesApartRow.mainSum := by
  unfold Func.isWrapper; rw [if_neg (of_decide_eq_false (by kernel_rfl))]; exact ⟨rfl, rfl⟩
theorem rulesApart_inst : (Tryz.f6).isInstance Tryz.pinned.checked.prog Rows.rulesApartRow.origin Rows.rulesApartRow.targs := of_decide_eq_true (by kernel_rfl)
theorem rulesApart_fn : Tryz.pinned.checked.prog.funcNamed Rows.rulesApartRow.func = some 6 := by kernel_rfl
theorem rulesApart_holds : Rows.RulesApartSaid :=
  OpenClaim.holds_of_wide 6 Tryz.f6 rfl rfl rfl rfl rfl rfl rfl ⟨rfl, rfl, rfl, rfl, rfl⟩ rfl rfl rfl rfl rfl rulesApart_fn Tryz.func6 rulesApart_closed rulesApart_inst rulesApart_wrap
    (fun os started H enc _ => rulesApart_lifted os started H enc)

end Go.Proofs.YtkojlembanldcaaGreat
