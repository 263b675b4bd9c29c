/- homesteadlaw18.LedgerTells. -/
import Derived.Test.YtkojlembanldcaaGreatSh
import Derived.Test.YtkojlembanldcaaGreatGe
import Derived.Test.YtkojlembanldcaaGreatRd
import Derived.Test.YtkojlembanldcaaGreatGk
set_option linter.unusedSimpArgs false
set_option linter.unusedVariables false
namespace Go.Proofs.YtkojlembanldcaaGreat
open Go Go.RowKit Eng

set_option maxRecDepth 100000 in
theorem ledgerTells_lifted (os : Os) (started : os.Started) (H : Type) (enc : TypeId × Value → H) :
  ReturnsInHanded {} Tryz.checked os 17 .any (Rows.ledgerTellsSpec.pre6 enc Tryz.prog Tryz.f17 Rows.ledgerTellsRow.domain false) (Rows.ledgerTellsSpec.post enc Tryz.prog Tryz.f17 false true false false) := by
 refine An (C := Tryz.checked) (boolT := 4) Lf started (by kernel_rfl) Tryz.func17 Km (of_decide_eq_true (by kernel_rfl)) rfl E3 rfl ?_
  (ChangeSpec.witness6 (enc := enc) (C := Tryz.checked) false ⟨#[], #[.agg #[.int .i64 0, .int .u64 0, .int .i64 0, .slice none 0 0, .slice none 0 0], .slice none 0 0], []⟩ 8 (by kernel_rfl) (by kernel_rfl) (by kernel_rfl) (by kernel_rfl))
  (vy Hk (vy C7 (GB _))) ?_
 ·intro ds hd
  match ds, hd with
  | [d1, d2], _ => rfl
 ·rintro ⟨w, l, _⟩ ⟨hw, hl, _⟩
  exact Fc w l hw.okW ⟨by have h : l.length * 24 ≤ 140737488351232 := hl.2; omega, fun b hb => ⟨by have h : b.length * 56 ≤ 140737488351232 := (hl.1 b hb).2; omega, fun o ho => ⟨((hl.1 b hb).1 o ho).1.2, ((hl.1 b hb).1 o ho).2.2.1.1, ((hl.1 b hb).1 o ho).2.2.1.2⟩⟩⟩

theorem ledgerTells_j0 : (Rows.ledgerTellsRow.wf (OpenSpec.ofChange Rows.ledgerTellsSpec)) = true := by kernel_rfl
theorem ledgerTells_j3 : (Tryz.f17.params.all (Tryz.pinned.checked.prog.readableRec ·)) = true := by kernel_rfl
theorem ledgerTells_j4 : (namedTie Tryz.pinned.checked.prog Rows.ledgerTellsRow.named Rows.ledgerTellsSpec.vars) = true := by kernel_rfl
theorem ledgerTells_j5 : ((Rows.ledgerTellsRow.stops == [])) = true := by kernel_rfl
theorem ledgerTells_j6 : ((Tryz.pinned.checked.prog.stops == [])) = true := by kernel_rfl
theorem ledgerTells_j7 : ((Rows.ledgerTellsRow.knobs == [])) = true := by kernel_rfl
theorem ledgerTells_j8 : ((Tryz.pinned.checked.prog.stopKnobs == [])) = true := by kernel_rfl
theorem ledgerTells_j9 : ((Rows.ledgerTellsRow.inPlace == Tryz.pinned.checked.prog.inPlace 17)) = true := by kernel_rfl
theorem ledgerTells_j10 : ((Rows.ledgerTellsRow.unfollowed == Tryz.pinned.checked.prog.unfollowed 17)) = true := by kernel_rfl
theorem ledgerTells_j11 : ((Rows.ledgerTellsRow.recurses == Tryz.pinned.checked.prog.recurses 17)) = true := by kernel_rfl
theorem ledgerTells_j12 : ((Rows.ledgerTellsRow.named == Tryz.pinned.checked.prog.varsNamed 17)) = true := by kernel_rfl
theorem ledgerTells_j13 : ((Rows.ledgerTellsRow.maps == (Tryz.f17.params.toList ++ Rows.ledgerTellsSpec.plain.varTypes Tryz.pinned.checked.prog).any (Tryz.pinned.checked.prog.mapsRec ·))) = true := by kernel_rfl
theorem ledgerTells_j14 : ((Rows.ledgerTellsRow.ifaces == (Tryz.f17.params.toList ++ Rows.ledgerTellsSpec.plain.varTypes Tryz.pinned.checked.prog).any (Tryz.pinned.checked.prog.ifacesRec ·))) = true := by kernel_rfl
theorem ledgerTells_j15 : ((Rows.ledgerTellsRow.mapsOut == Tryz.pinned.checked.prog.mapsAmong Tryz.f17.resultTypes.toList)) = true := by kernel_rfl
theorem ledgerTells_j16 : ((Rows.ledgerTellsRow.loops == (Tryz.f17.params.toList ++ Rows.ledgerTellsSpec.plain.varTypes Tryz.pinned.checked.prog).any (Tryz.pinned.checked.prog.loopsFrom ·))) = true := by kernel_rfl
theorem ledgerTells_j17 : ((Rows.ledgerTellsRow.wideKeys == (Tryz.f17.params.toList ++ Rows.ledgerTellsSpec.plain.varTypes Tryz.pinned.checked.prog ++ Tryz.f17.resultTypes.toList).any (Tryz.pinned.checked.prog.wideKeysFrom ·))) = true := by kernel_rfl
theorem ledgerTells_j18 : (Rows.ledgerTellsSpec.vars.all (Tryz.pinned.checked.prog.varReadable ·)) = true := by kernel_rfl
theorem ledgerTells_j19 : (Tryz.f17.resultTypes.all (fun t => Tryz.pinned.checked.prog.readableRec t && decide (t < Tryz.pinned.checked.prog.types.size))) = true := by kernel_rfl
theorem ledgerTells_j20 : ((Rows.ledgerTellsRow.ifacesOut == Tryz.f17.resultTypes.toList.any (Tryz.pinned.checked.prog.ifacesRec ·))) = true := by kernel_rfl
theorem ledgerTells_j21 : ((Rows.ledgerTellsRow.loopsOut == Tryz.f17.resultTypes.toList.any (Tryz.pinned.checked.prog.loopsFrom ·))) = true := by kernel_rfl
theorem ledgerTells_j23 : (Rows.ledgerTellsRow.shortTexts.isNone) = true := by kernel_rfl
theorem ledgerTells_j28 : ((Rows.ledgerTellsRow.kinds == (if Rows.ledgerTellsRow.domain.isEmpty then [] else Tryz.f17.params.toList.map fun t => match Tryz.pinned.checked.prog.underlying t with | some (.int k) => some k | _ => none))) = true := by kernel_rfl
theorem ledgerTells_j29 : ((Rows.ledgerTellsRow.pinned == Rows.ledgerTellsRow.pinnedBy)) = true := by kernel_rfl
theorem ledgerTells_j30 : ((Rows.ledgerTellsRow.veiled == (Tryz.f17.params.toList ++ Rows.ledgerTellsSpec.plain.varTypes Tryz.pinned.checked.prog ++ Tryz.f17.resultTypes.toList).any (Tryz.pinned.checked.prog.veiledRec ·))) = true := by kernel_rfl
theorem ledgerTells_j31 : (Rows.ledgerTellsRow.veiledFits Tryz.pinned.checked.prog Tryz.f17.params.toList (Tryz.f17.params.toList ++ Rows.ledgerTellsSpec.plain.varTypes Tryz.pinned.checked.prog ++ Tryz.f17.resultTypes.toList)) = true := by kernel_rfl
set_option maxRecDepth 100000 in
theorem ledgerTells_closed : joinedFacts Tryz.pinned.checked.prog 17 Tryz.f17 Rows.ledgerTellsSpec Rows.ledgerTellsRow = true := by
 unfold joinedFacts
 exact aT (aT (aT (aT (aT (aT (aT (aT (aT (aT (aT (aT (aT (aT (aT (aT (aT (aT (aT (aT (aT (aT (aT (aT (aT (aT (aT (aT (aT (aT (aT (ledgerTells_j0) LC) LD) ledgerTells_j3) ledgerTells_j4) ledgerTells_j5) ledgerTells_j6) ledgerTells_j7) ledgerTells_j8) ledgerTells_j9) ledgerTells_j10) ledgerTells_j11) ledgerTells_j12) ledgerTells_j13) ledgerTells_j14) ledgerTells_j15) ledgerTells_j16) ledgerTells_j17) ledgerTells_j18) ledgerTells_j19) ledgerTells_j20) ledgerTells_j21) KX) ledgerTells_j23) KY) KZ) K1) K2) ledgerTells_j28) ledgerTells_j29) ledgerTells_j30) ledgerTells_j31
theorem ledgerTells_wrap : (Tryz.f17).isWrapper Tryz.pinned.checked.prog Rows.ledgerTellsRow.wrapper Rows.ledgerTellsRow.mainSum := by
 unfold Func.isWrapper; rw [if_neg (of_decide_eq_false (by kernel_rfl))]; exact ⟨rfl, rfl⟩
theorem ledgerTells_inst : (Tryz.f17).isInstance Tryz.pinned.checked.prog Rows.ledgerTellsRow.origin Rows.ledgerTellsRow.targs := of_decide_eq_true (by kernel_rfl)
theorem ledgerTells_fn : Tryz.pinned.checked.prog.funcNamed Rows.ledgerTellsRow.func = some 17 := by kernel_rfl
theorem ledgerTells_holds : Rows.LedgerTellsSaid :=
 OpenClaim.holds_of_wide 17 Tryz.f17 rfl rfl rfl rfl rfl rfl rfl ⟨rfl, rfl, rfl, rfl, rfl⟩ rfl rfl rfl rfl rfl ledgerTells_fn Tryz.func17 ledgerTells_closed ledgerTells_inst ledgerTells_wrap
  (fun os started H enc _ => ledgerTells_lifted os started H enc)

end Go.Proofs.YtkojlembanldcaaGreat
