/- For every world, numbers and moves the call of homesteadlaw27.PathWalks returns true, and its arguments read as they did. No conditions. -/
import Derived.Test.YtchdgiooggdfeaaGreatGv
import Derived.Test.YtchdgiooggdfeaaGreatGe
import Derived.Test.YtchdgiooggdfeaaGreatGj
import Derived.Test.YtchdgiooggdfeaaGreatGt
set_option linter.unusedSimpArgs false
set_option linter.unusedVariables false
namespace Go.Proofs.YtchdgiooggdfeaaGreat
open Go Go.RowKit Eng

set_option maxRecDepth 100000 in
theorem pathWalks_lifted (os : Os) (started : os.Started) (H : Type) (enc : TypeId × Value → H) :
    ReturnsInHanded {} Tryz.checked os 3 .any (Rows.pathWalksSpec.pre6 enc Tryz.prog Tryz.f3 Rows.pathWalksRow.domain false) (Rows.pathWalksSpec.post enc Tryz.prog Tryz.f3 false true false false) := by
  refine lifted_true (C := Tryz.checked) (boolT := 4) P_own started (by kernel_rfl) Tryz.func3 P_laid (of_decide_eq_true (by kernel_rfl)) rfl boolUn rfl ?_
    (ChangeSpec.witness6 (enc := enc) (C := Tryz.checked) false ⟨#[], #[.agg #[.int .i64 0, .int .u64 0, .int .i64 0, .slice none 0 0, .slice none 0 0], .agg #[.int .i64 0, .int .i64 0, .int .i64 0, .int .i64 0], .slice none 0 0], []⟩ 8 (by kernel_rfl) (by kernel_rfl) (by kernel_rfl) (by kernel_rfl))
    (args_cons ag_world (args_cons ag_4int (args_cons ag_u8s (args_nil _)))) ?_
  · intro ds hd
    match ds, hd with
    | [d1, d2, d3], _ => rfl
  · rintro ⟨w, ⟨x0, x1, x2, x3, _⟩, mv, _⟩ ⟨hw, _, hmv, _⟩
    exact pwalk_api w hw.okW x0 x1 x2 x3 mv hmv.1 (Nat.le_trans (Nat.le_of_eq (Nat.mul_one mv.length).symm) hmv.2)

theorem pathWalks_j0 : (Rows.pathWalksRow.wf (OpenSpec.ofChange Rows.pathWalksSpec)) = true := by kernel_rfl
theorem pathWalks_j3 : (Tryz.f3.params.all (Tryz.pinned.checked.prog.readableRec ·)) = true := by kernel_rfl
theorem pathWalks_j4 : (namedTie Tryz.pinned.checked.prog Rows.pathWalksRow.named Rows.pathWalksSpec.vars) = true := by kernel_rfl
theorem pathWalks_j5 : ((Rows.pathWalksRow.stops == [])) = true := by kernel_rfl
theorem pathWalks_j6 : ((Tryz.pinned.checked.prog.stops == [])) = true := by kernel_rfl
theorem pathWalks_j7 : ((Rows.pathWalksRow.knobs == [])) = true := by kernel_rfl
theorem pathWalks_j8 : ((Tryz.pinned.checked.prog.stopKnobs == [])) = true := by kernel_rfl
theorem pathWalks_j9 : ((Rows.pathWalksRow.inPlace == Tryz.pinned.checked.prog.inPlace 3)) = true := by kernel_rfl
theorem pathWalks_j10 : ((Rows.pathWalksRow.unfollowed == Tryz.pinned.checked.prog.unfollowed 3)) = true := by kernel_rfl
theorem pathWalks_j11 : ((Rows.pathWalksRow.recurses == Tryz.pinned.checked.prog.recurses 3)) = true := by kernel_rfl
theorem pathWalks_j12 : ((Rows.pathWalksRow.named == Tryz.pinned.checked.prog.varsNamed 3)) = true := by kernel_rfl
theorem pathWalks_j13 : ((Rows.pathWalksRow.maps == (Tryz.f3.params.toList ++ Rows.pathWalksSpec.plain.varTypes Tryz.pinned.checked.prog).any (Tryz.pinned.checked.prog.mapsRec ·))) = true := by kernel_rfl
theorem pathWalks_j14 : ((Rows.pathWalksRow.ifaces == (Tryz.f3.params.toList ++ Rows.pathWalksSpec.plain.varTypes Tryz.pinned.checked.prog).any (Tryz.pinned.checked.prog.ifacesRec ·))) = true := by kernel_rfl
theorem pathWalks_j15 : ((Rows.pathWalksRow.mapsOut == Tryz.pinned.checked.prog.mapsAmong Tryz.f3.resultTypes.toList)) = true := by kernel_rfl
theorem pathWalks_j16 : ((Rows.pathWalksRow.loops == (Tryz.f3.params.toList ++ Rows.pathWalksSpec.plain.varTypes Tryz.pinned.checked.prog).any (Tryz.pinned.checked.prog.loopsFrom ·))) = true := by kernel_rfl
theorem pathWalks_j17 : ((Rows.pathWalksRow.wideKeys == (Tryz.f3.params.toList ++ Rows.pathWalksSpec.plain.varTypes Tryz.pinned.checked.prog ++ Tryz.f3.resultTypes.toList).any (Tryz.pinned.checked.prog.wideKeysFrom ·))) = true := by kernel_rfl
theorem pathWalks_j18 : (Rows.pathWalksSpec.vars.all (Tryz.pinned.checked.prog.varReadable ·)) = true := by kernel_rfl
theorem pathWalks_j19 : (Tryz.f3.resultTypes.all (fun t => Tryz.pinned.checked.prog.readableRec t && decide (t < Tryz.pinned.checked.prog.types.size))) = true := by kernel_rfl
theorem pathWalks_j20 : ((Rows.pathWalksRow.ifacesOut == Tryz.f3.resultTypes.toList.any (Tryz.pinned.checked.prog.ifacesRec ·))) = true := by kernel_rfl
theorem pathWalks_j21 : ((Rows.pathWalksRow.loopsOut == Tryz.f3.resultTypes.toList.any (Tryz.pinned.checked.prog.loopsFrom ·))) = true := by kernel_rfl
theorem pathWalks_j23 : (Rows.pathWalksRow.shortTexts.isNone) = true := by kernel_rfl
theorem pathWalks_j28 : ((Rows.pathWalksRow.kinds == (if Rows.pathWalksRow.domain.isEmpty then [] else Tryz.f3.params.toList.map fun t => match Tryz.pinned.checked.prog.underlying t with | some (.int k) => some k | _ => none))) = true := by kernel_rfl
theorem pathWalks_j29 : ((Rows.pathWalksRow.pinned == Rows.pathWalksRow.pinnedBy)) = true := by kernel_rfl
theorem pathWalks_j30 : ((Rows.pathWalksRow.veiled == (Tryz.f3.params.toList ++ Rows.pathWalksSpec.plain.varTypes Tryz.pinned.checked.prog ++ Tryz.f3.resultTypes.toList).any (Tryz.pinned.checked.prog.veiledRec ·))) = true := by kernel_rfl
theorem pathWalks_j31 : (Rows.pathWalksRow.veiledFits Tryz.pinned.checked.prog Tryz.f3.params.toList (Tryz.f3.params.toList ++ Rows.pathWalksSpec.plain.varTypes Tryz.pinned.checked.prog ++ Tryz.f3.resultTypes.toList)) = true := by kernel_rfl
set_option maxRecDepth 100000 in
theorem pathWalks_closed : joinedFacts Tryz.pinned.checked.prog 3 Tryz.f3 Rows.pathWalksSpec Rows.pathWalksRow = true := by
  unfold joinedFacts
  exact aT (aT (aT (aT (aT (aT (aT (aT (aT (aT (aT (aT (aT (aT (aT (aT (aT (aT (aT (aT (aT (aT (aT (aT (aT (aT (aT (aT (aT (aT (aT (pathWalks_j0) js_1) js_2) pathWalks_j3) pathWalks_j4) pathWalks_j5) pathWalks_j6) pathWalks_j7) pathWalks_j8) pathWalks_j9) pathWalks_j10) pathWalks_j11) pathWalks_j12) pathWalks_j13) pathWalks_j14) pathWalks_j15) pathWalks_j16) pathWalks_j17) pathWalks_j18) pathWalks_j19) pathWalks_j20) pathWalks_j21) js_22) pathWalks_j23) js_24) js_25) js_26) js_27) pathWalks_j28) pathWalks_j29) pathWalks_j30) pathWalks_j31
theorem pathWalks_wrap : (Tryz.f3).isWrapper Tryz.pinned.checked.prog Rows.pathWalksRow.wrapper Rows.pathWalksRow.mainSum := by
  unfold Func.isWrapper; rw [if_neg (of_decide_eq_false (by kernel_rfl))]; exact ⟨rfl, rfl⟩
theorem pathWalks_inst : (Tryz.f3).isInstance Tryz.pinned.checked.prog Rows.pathWalksRow.origin Rows.pathWalksRow.targs := of_decide_eq_true (by kernel_rfl)
theorem pathWalks_fn : Tryz.pinned.checked.prog.funcNamed Rows.pathWalksRow.func = some 3 := by kernel_rfl
theorem pathWalks_holds : Rows.PathWalksSaid :=
  OpenClaim.holds_of_wide 3 Tryz.f3 rfl rfl rfl rfl rfl rfl rfl ⟨rfl, rfl, rfl, rfl, rfl⟩ rfl rfl rfl rfl rfl pathWalks_fn Tryz.func3 pathWalks_closed pathWalks_inst pathWalks_wrap
    (fun os started H enc _ => pathWalks_lifted os started H enc)

end Go.Proofs.YtchdgiooggdfeaaGreat
