
/- awake. -/
import Derived.Test.YtokdgkdpdepaeaaLaw
import Derived.Test.YtokdgkdpdepaeaaGive
set_option linter.unusedSimpArgs false
set_option linter.unusedVariables false
namespace Go.Proofs.Ytokdgkdpdepaeaa
open Go Go.RowKit Eng

set_option maxRecDepth 100000 in
set_option maxHeartbeats 4000000 in
theorem box_own (c : Chunk) (cell : Int) (hc : OkC c) (hf : FitC c) (hR : rightB c = true) (hT : thereB c.boxes cell = true) : Ev1 Try.prog 14 [chunkV c, i64 cell] [] (.tup [.own .slot 390001 0 (elt .box c.boxes (lb cell c.boxes)).bag.length none, bol true]) [(390001, .row .slot (elt .box c.boxes (lb cell c.boxes)).bag)] := by
  have hrt := cright_api c hc
  have hbx := hf.boxes
  rw [hR] at hrt
  have hRC := rightC_of hR
  have hle : c.boxes.length ≤ 4000000000000000000 := by omega
  have hfd := find_api c.boxes cell hle hRC.rises
  rw [hT] at hfd
  obtain ⟨hlt, hce⟩ := thereB_lt hT
  have hbk := hf.bags _ (elt_mem (t := .box) hlt)
  generalize hat : lb cell c.boxes = at_ at *
  refine Ev1.of_fin cfg_ok Try.func14 rfl (nt := 25) rfl rfl rfl ?_
  conv => whnf
  repeat' (first
    | exact trivial
    | ((first | refine .inl ⟨in64 (by omega) (by omega), ?_⟩ | refine .inl ⟨inU64 (by omega) (by omega), ?_⟩ | refine .inl ⟨inU8 (by omega) (by omega), ?_⟩); (conv => whnf))
    | ((refine ⟨fun hb => ?_, fun hb => ?_⟩) <;> (try simp only [decide_eq_true_eq, decide_eq_false_iff_not, Int.not_lt, Int.not_le, beq_iff_eq, beq_eq_false_iff_ne, bne_iff_ne, bne_eq_false_iff_eq, ne_eq, Decidable.not_not, Bool.not_eq_true', Bool.not_eq_false', Bool.not_eq_true, Bool.not_eq_false, Int.toNat_natCast, Bool.and_eq_true, Bool.or_eq_true, Bool.and_eq_false_iff, Bool.or_eq_false_iff, List.length_nil, List.length_cons] at hb) <;> (first | (exfalso; omega) | contradiction | (conv => whnf)))
    | ((first | (refine isE 38 ?_; refine callEv (clone_slots (elt .box c.boxes at_).bag (by omega)) [(390001, 350001)] rfl ?_ ?_ ?_) | (refine isD 38 ?_; refine callEvD (clone_slots (elt .box c.boxes at_).bag (by omega)) [(390001, 350001)] rfl ?_ ?_ ?_)); rotate_left; rotate_left; (conv => whnf); rotate_left; (repeat' (first | exact trivial | (refine ⟨rfl, ?_⟩))); kernel_rfl)
    | ((first | (refine callApi (hrt) rfl rfl ?_) | (refine callApiD (hrt) rfl rfl ?_) | (refine callApi (hfd) rfl rfl ?_) | (refine callApiD (hfd) rfl rfl ?_) | refine Draws.of cfg_ok (by kernel_rfl) ?_ | refine ⟨(by kernel_rfl : confB _ _ _ _ _ = true), ?_⟩ | refine ⟨by (first | omega | (simp only [lens, Int.toNat_natCast, bsz, Nat.zero_mul, Nat.zero_add]; omega)), ?_⟩ | refine .inl ⟨by omega, by omega, ?_⟩ | refine .inr ⟨⟨by (first | omega | (simp only [lens, Int.toNat_natCast, bsz, Nat.zero_mul, Nat.zero_add]; omega)), by (first | omega | (simp only [lens, Int.toNat_natCast, bsz, Nat.zero_mul, Nat.zero_add]; omega))⟩, ?_⟩ | refine .inl ⟨⟨by (first | omega | (simp only [lens, Int.toNat_natCast, bsz, Nat.zero_mul, Nat.zero_add]; omega)), by (first | omega | (simp only [lens, Int.toNat_natCast, bsz, Nat.zero_mul, Nat.zero_add]; omega))⟩, ?_⟩ | refine ⟨rfl, ?_⟩ | refine ⟨congrArg (Value.int _) (by omega), ?_⟩); (conv => whnf))
    | (refine And.intro ?_ ?_; rotate_left; (conv => whnf); rotate_right))
  all_goals exact List.take_length

instance (s : Slot) : Decidable (okSlot s) := inferInstanceAs (Decidable (_ ∧ _))
instance (h : Heap) : Decidable (okHeap h) := inferInstanceAs (Decidable (okSlot _))
theorem okC_empty : OkC emptyC := by
  refine ⟨?_, ?_, ?_, ?_, ?_, ?_⟩ <;> simp [emptyC, big]
theorem fitC_empty : FitC emptyC := by
  refine ⟨?_, ?_, ?_, ?_⟩ <;> simp [emptyC]
theorem right_empty : rightB emptyC = true := by decide
def zeros : List Int := List.replicate 67 0
theorem bytes_empty : bytesC emptyC = zeros := by decide
def nineC : Chunk := { emptyC with cells := emptyC.cells.set 5 9, boxes := [⟨5, List.replicate 6 ⟨0, 0⟩⟩] }
theorem set_empty : setC emptyC 5 9 = (nineC, 0) := by rfl
def bag1 : List Slot := [⟨3, 1⟩, ⟨0, 0⟩, ⟨0, 0⟩, ⟨0, 0⟩, ⟨0, 0⟩, ⟨0, 0⟩]
def fullC : Chunk := { nineC with boxes := [⟨5, bag1⟩] }
theorem fill_nine : fillC nineC 5 bag1 = (fullC, 0) := by rfl
theorem set_full : setC fullC 5 0 = (fullC, 104) := by rfl
theorem thereB_nine : thereB nineC.boxes 5 = true := by decide
theorem okC_nine : OkC nineC := by
  refine ⟨by decide, by decide, ?_, by decide, by decide, by decide⟩
  intro b hb
  simp only [nineC, List.mem_singleton] at hb
  subst hb
  exact ⟨by decide, by decide⟩
theorem fitC_nine : FitC nineC := ⟨by decide, by decide, by decide, by decide⟩
theorem okC_full : OkC fullC := by
  refine ⟨by decide, by decide, ?_, by decide, by decide, by decide⟩
  intro b hb
  simp only [fullC, List.mem_singleton] at hb
  subst hb
  exact ⟨by decide, by decide⟩
theorem fitC_full : FitC fullC := ⟨by decide, by decide, by decide, by decide⟩
theorem okU8_zeros : okU8 zeros := by unfold okU8 zeros; decide
theorem takeZ : List.take (Int.toNat 67) (List.drop 0 (List.replicate (Int.toNat 67) (dflt .u8))) = zeros := by decide

set_option maxRecDepth 100000 in
set_option maxHeartbeats 4000000 in
theorem awake_api  : Api Try.prog 10 [] (bol true) := by
  have hb := bytes_api emptyC okC_empty
  rw [if_pos right_empty, if_pos right_empty, bytes_empty] at hb
  have hs := set_api emptyC 5 9 okC_empty fitC_empty (by omega) (by omega)
  rw [set_empty] at hs; dsimp only at hs
  have hx : Ev1 Try.prog 14 [chunkV nineC, i64 5] [] (.tup [.own .slot 390001 0 6 none, bol true]) [(390001, .row .slot (List.replicate 6 ⟨0, 0⟩))] := box_own nineC 5 okC_nine fitC_nine (by decide) thereB_nine
  have hf := fill_api nineC 5 bag1 okC_nine fitC_nine (by decide) (by unfold okSlot; decide)
  rw [fill_nine] at hf; dsimp only at hf
  have hs2 := set_api fullC 5 0 okC_full fitC_full (by omega) (by omega)
  rw [set_full] at hs2; dsimp only at hs2
  have heq := equal_api zeros zeros okU8_zeros okU8_zeros
  rw [show eqL zeros zeros = true by simp [eqL]] at heq
  have hem := empty_api
  have htz := takeZ
  obtain ⟨R0, hR0⟩ : ∃ R, R = List.replicate 6 (⟨0, 0⟩ : Slot) := ⟨_, rfl⟩
  rw [← hR0] at hx
  have hR0l : R0.length = 6 := by rw [hR0]; rfl
  generalize zeros = Z at *
  generalize nineC = N9 at *
  generalize fullC = F9 at *
  generalize emptyC = E9 at *
  refine Api.of_fin cfg_ok Try.func10 rfl (nt := 67) rfl rfl ?_
  conv => whnf
  repeat' (first
    | exact trivial
    | ((first | refine .inl ⟨in64 (by omega) (by omega), ?_⟩ | refine .inl ⟨inU64 (by omega) (by omega), ?_⟩ | refine .inl ⟨inU8 (by omega) (by omega), ?_⟩); (conv => whnf))
    | ((refine ⟨fun hb => ?_, fun hb => ?_⟩) <;> (try simp only [decide_eq_true_eq, decide_eq_false_iff_not, Int.not_lt, Int.not_le, beq_iff_eq, beq_eq_false_iff_ne, bne_iff_ne, bne_eq_false_iff_eq, ne_eq, Decidable.not_not, Bool.not_eq_true', Bool.not_eq_false', Bool.not_eq_true, Bool.not_eq_false, Int.toNat_natCast, Bool.and_eq_true, Bool.or_eq_true, Bool.and_eq_false_iff, Bool.or_eq_false_iff, List.length_nil, List.length_cons] at hb) <;> (first | (exfalso; omega) | contradiction | (conv => whnf)))
    | ((first | (refine callEv (hx) [(390001, 150001)] rfl ?_ ?_ ?_) | (refine callEvD (hx) [(390001, 150001)] rfl ?_ ?_ ?_)); rotate_left; rotate_left; (conv => whnf); rotate_left; (repeat' (first | exact trivial | (refine ⟨rfl, ?_⟩))); kernel_rfl)
    | ((first | (refine callApi (hem) rfl rfl ?_) | (refine callApiD (hem) rfl rfl ?_) | (refine callApi (hb) rfl rfl ?_) | (refine callApiD (hb) rfl rfl ?_) | (refine callApi (hs) rfl rfl ?_) | (refine callApiD (hs) rfl rfl ?_) | refine Draws.of cfg_ok (by kernel_rfl) ?_ | refine ⟨(by kernel_rfl : confB _ _ _ _ _ = true), ?_⟩ | refine ⟨by (first | omega | (simp only [lens, Int.toNat_natCast, bsz, Nat.zero_mul, Nat.zero_add]; omega)), ?_⟩ | refine .inl ⟨by omega, by omega, ?_⟩ | refine .inr ⟨⟨by (first | omega | (simp only [lens, Int.toNat_natCast, bsz, Nat.zero_mul, Nat.zero_add]; omega)), by (first | omega | (simp only [lens, Int.toNat_natCast, bsz, Nat.zero_mul, Nat.zero_add]; omega))⟩, ?_⟩ | refine .inl ⟨⟨by (first | omega | (simp only [lens, Int.toNat_natCast, bsz, Nat.zero_mul, Nat.zero_add]; omega)), by (first | omega | (simp only [lens, Int.toNat_natCast, bsz, Nat.zero_mul, Nat.zero_add]; omega))⟩, ?_⟩ | refine ⟨rfl, ?_⟩ | refine ⟨congrArg (Value.int _) (by omega), ?_⟩); (conv => whnf))
    | (refine And.intro ?_ ?_; rotate_left; (conv => whnf); rotate_right))
  refine callGive heq rfl rfl ?_
  conv => whnf
  refine ⟨by decide, by rw [htz], ?_⟩
  conv => whnf
  repeat' (first
    | exact trivial
    | ((first | refine .inl ⟨in64 (by omega) (by omega), ?_⟩ | refine .inl ⟨inU64 (by omega) (by omega), ?_⟩ | refine .inl ⟨inU8 (by omega) (by omega), ?_⟩); (conv => whnf))
    | ((refine ⟨fun hb => ?_, fun hb => ?_⟩) <;> (try simp only [decide_eq_true_eq, decide_eq_false_iff_not, Int.not_lt, Int.not_le, beq_iff_eq, beq_eq_false_iff_ne, bne_iff_ne, bne_eq_false_iff_eq, ne_eq, Decidable.not_not, Bool.not_eq_true', Bool.not_eq_false', Bool.not_eq_true, Bool.not_eq_false, Int.toNat_natCast, Bool.and_eq_true, Bool.or_eq_true, Bool.and_eq_false_iff, Bool.or_eq_false_iff, List.length_nil, List.length_cons] at hb) <;> (first | (exfalso; omega) | contradiction | (conv => whnf)))
    | ((refine ⟨(⟨by decide, by decide⟩ : 0 ≤ (0 : Int) ∧ (0 : Int) < ((6 : Nat) : Int)), ?_⟩; show opsK _ _ _ _ _ _ _ _; unfold opsK; unfold guardK; show stepK _ _ _ _ _ _ _; unfold stepK; show opA _ _ _ _ _ _ _; unfold opA; show avalK _ _ _); (conv => whnf))
    | ((first | refine Draws.of cfg_ok (by kernel_rfl) ?_ | refine ⟨(by kernel_rfl : confB _ _ _ _ _ = true), ?_⟩ | refine ⟨by (first | omega | (simp only [lens, Int.toNat_natCast, bsz, Nat.zero_mul, Nat.zero_add]; omega)), ?_⟩ | refine .inl ⟨by omega, by omega, ?_⟩ | refine .inr ⟨⟨by (first | omega | (simp only [lens, Int.toNat_natCast, bsz, Nat.zero_mul, Nat.zero_add]; omega)), by (first | omega | (simp only [lens, Int.toNat_natCast, bsz, Nat.zero_mul, Nat.zero_add]; omega))⟩, ?_⟩ | refine .inl ⟨⟨by (first | omega | (simp only [lens, Int.toNat_natCast, bsz, Nat.zero_mul, Nat.zero_add]; omega)), by (first | omega | (simp only [lens, Int.toNat_natCast, bsz, Nat.zero_mul, Nat.zero_add]; omega))⟩, ?_⟩ | refine ⟨rfl, ?_⟩ | refine ⟨congrArg (Value.int _) (by omega), ?_⟩); (conv => whnf))
    | (refine And.intro ?_ ?_; rotate_left; (conv => whnf); rotate_right))
  refine callGive hf rfl rfl ?_
  conv => whnf
  refine ⟨by rw [List.length_set]; omega, by rw [hR0]; rfl, ?_⟩
  conv => whnf
  repeat' (first
    | exact trivial
    | ((first | refine .inl ⟨in64 (by omega) (by omega), ?_⟩ | refine .inl ⟨inU64 (by omega) (by omega), ?_⟩ | refine .inl ⟨inU8 (by omega) (by omega), ?_⟩); (conv => whnf))
    | ((refine ⟨fun hb => ?_, fun hb => ?_⟩) <;> (try simp only [decide_eq_true_eq, decide_eq_false_iff_not, Int.not_lt, Int.not_le, beq_iff_eq, beq_eq_false_iff_ne, bne_iff_ne, bne_eq_false_iff_eq, ne_eq, Decidable.not_not, Bool.not_eq_true', Bool.not_eq_false', Bool.not_eq_true, Bool.not_eq_false, Int.toNat_natCast, Bool.and_eq_true, Bool.or_eq_true, Bool.and_eq_false_iff, Bool.or_eq_false_iff, List.length_nil, List.length_cons] at hb) <;> (first | (exfalso; omega) | contradiction | (conv => whnf)))
    | ((first | (refine callApi (hs2) rfl rfl ?_) | (refine callApiD (hs2) rfl rfl ?_) | refine Draws.of cfg_ok (by kernel_rfl) ?_ | refine ⟨(by kernel_rfl : confB _ _ _ _ _ = true), ?_⟩ | refine ⟨by (first | omega | (simp only [lens, Int.toNat_natCast, bsz, Nat.zero_mul, Nat.zero_add]; omega)), ?_⟩ | refine .inl ⟨by omega, by omega, ?_⟩ | refine .inr ⟨⟨by (first | omega | (simp only [lens, Int.toNat_natCast, bsz, Nat.zero_mul, Nat.zero_add]; omega)), by (first | omega | (simp only [lens, Int.toNat_natCast, bsz, Nat.zero_mul, Nat.zero_add]; omega))⟩, ?_⟩ | refine .inl ⟨⟨by (first | omega | (simp only [lens, Int.toNat_natCast, bsz, Nat.zero_mul, Nat.zero_add]; omega)), by (first | omega | (simp only [lens, Int.toNat_natCast, bsz, Nat.zero_mul, Nat.zero_add]; omega))⟩, ?_⟩ | refine ⟨rfl, ?_⟩ | refine ⟨congrArg (Value.int _) (by omega), ?_⟩); (conv => whnf))
    | (refine And.intro ?_ ?_; rotate_left; (conv => whnf); rotate_right))

end Go.Proofs.Ytokdgkdpdepaeaa
