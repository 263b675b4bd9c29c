
/- chunk.Set. -/
import Derived.Test.YtokdgkdpdepaeaaDelIns
set_option linter.unusedSimpArgs false
set_option linter.unusedVariables false
namespace Go.Proofs.Ytokdgkdpdepaeaa
open Go Go.RowKit Eng

/-- A right chunk's boxes stand at its chests, one by one. -/
theorem rightGo_rises : ∀ (l : List Int) (k : Nat) (bs : List Box), rightGo l k bs = some [] → rises bs ∧ (∀ b ∈ bs, (k : Int) ≤ b.cell ∧ b.cell < k + l.length)
  | [], k, bs, h => by simp [rightGo] at h; subst h; exact ⟨trivial, by simp⟩
  | i :: r, k, bs, h => by
    simp only [rightGo] at h
    split at h
    · split at h
      · cases bs with
        | nil => cases h
        | cons b bs =>
          simp only at h
          split at h
          · rename_i hb
            obtain ⟨h1, h2⟩ := rightGo_rises r (k + 1) bs h
            have hbk : b.cell = k := by simp only [boxAt, Bool.and_eq_true, beq_iff_eq] at hb; exact hb.1
            refine ⟨⟨fun x hx => by have := (h2 x hx).1; omega, h1⟩, fun x hx => ?_⟩
            rcases List.mem_cons.1 hx with rfl | hx
            · simp only [List.length_cons]; omega
            · have := h2 x hx; simp only [List.length_cons]; omega
          · cases h
      · obtain ⟨h1, h2⟩ := rightGo_rises r (k + 1) bs h
        exact ⟨h1, fun x hx => by have := h2 x hx; simp only [List.length_cons]; omega⟩
    · cases h

structure RightC (c : Chunk) : Prop where
  head : headB c = true
  go : rightGo c.cells 0 c.boxes = some []
  heaps : c.heaps.any badHeap = false
theorem rightC_of {c : Chunk} (h : rightB c = true) : RightC c := by
  unfold rightB at h
  simp only [Bool.and_eq_true] at h
  obtain ⟨h1, h2⟩ := h
  split at h2
  · rename_i hg; exact ⟨h1, hg, by simpa using h2⟩
  · cases h2
theorem RightC.len {c : Chunk} (h : RightC c) : c.cells.length = 64 := by
  have := h.head; simp only [headB, Bool.and_eq_true, decide_eq_true_eq] at this; omega
theorem RightC.rises {c : Chunk} (h : RightC c) : rises c.boxes := (rightGo_rises _ _ _ h.go).1

theorem thereB_lt {l : List Box} {t : Int} (h : thereB l t = true) : lb t l < l.length ∧ (elt .box l (lb t l)).cell = t := by
  simp only [thereB, Bool.and_eq_true, decide_eq_true_eq, beq_iff_eq] at h; exact h

def posSlot (s : Slot) : Bool := decide (0 < s.n)
def anySlot (_ : Slot) : Prop := True
def newBag : List Slot := List.replicate 6 ⟨0, 0⟩
def fullB (l : List Slot) : Bool := l.any posSlot
def delB (l : List Box) (t : Int) : List Box := if thereB l t then l.take (lb t l) ++ l.drop (lb t l + 1) else l
def putB (l : List Box) (t : Int) (i : Int) : List Box := if i = 9 then (delB l t).take (lb t l) ++ (⟨t, newBag⟩ : Box) :: (delB l t).drop (lb t l) else delB l t
def setC (c : Chunk) (cell i : Int) : Chunk × Int :=
  if rightB c = false then (c, 101) else if ¬ (0 ≤ cell ∧ cell < 64) then (c, 102) else if ¬ (i = 0) ∧ blockB i = false then (c, 100)
  else if thereB c.boxes cell = true ∧ fullB (elt .box c.boxes (lb cell c.boxes)).bag = true then (c, 104)
  else ({ c with cells := c.cells.set cell.toNat i, boxes := putB c.boxes cell i }, 0)

set_option maxRecDepth 100000 in
set_option maxHeartbeats 4000000 in
theorem set1_api (s : Slot) (h : anySlot s) : Api Try.prog 35 [.agg [.lit (.int .u8 s.item), .lit (.int .i64 s.n)]] (bol (posSlot s)) := by
  refine Api.of_fin cfg_ok Try.func35 rfl (nt := 5) rfl rfl ?_
  conv => whnf
  repeat' (first
    | exact trivial
    | ((first | refine .inl ⟨in64 (by omega) (by omega), ?_⟩ | refine .inl ⟨inU64 (by omega) (by omega), ?_⟩ | refine .inl ⟨inU8 (by omega) (by omega), ?_⟩); (conv => whnf))
    | ((refine ⟨fun hb => ?_, fun hb => ?_⟩) <;> (try simp only [decide_eq_true_eq, decide_eq_false_iff_not, Int.not_lt, Int.not_le, beq_iff_eq, beq_eq_false_iff_ne, bne_iff_ne, bne_eq_false_iff_eq, ne_eq, Decidable.not_not, Bool.not_eq_true', Bool.not_eq_false', Bool.not_eq_true, Bool.not_eq_false, Int.toNat_natCast, Bool.and_eq_true, Bool.or_eq_true, Bool.and_eq_false_iff, Bool.or_eq_false_iff, List.length_nil, List.length_cons] at hb) <;> (first | (exfalso; omega) | contradiction | (conv => whnf)))
    | ((first | refine Draws.of cfg_ok (by kernel_rfl) ?_ | refine ⟨(by kernel_rfl : confB _ _ _ _ _ = true), ?_⟩ | refine ⟨by (first | omega | (simp only [lens, Int.toNat_natCast, bsz, Nat.zero_mul, Nat.zero_add]; omega)), ?_⟩ | refine .inl ⟨by omega, by omega, ?_⟩ | refine .inr ⟨⟨by (first | omega | (simp only [lens, Int.toNat_natCast, bsz, Nat.zero_mul, Nat.zero_add]; omega)), by (first | omega | (simp only [lens, Int.toNat_natCast, bsz, Nat.zero_mul, Nat.zero_add]; omega))⟩, ?_⟩ | refine .inl ⟨⟨by (first | omega | (simp only [lens, Int.toNat_natCast, bsz, Nat.zero_mul, Nat.zero_add]; omega)), by (first | omega | (simp only [lens, Int.toNat_natCast, bsz, Nat.zero_mul, Nat.zero_add]; omega))⟩, ?_⟩ | refine ⟨rfl, ?_⟩ | refine ⟨congrArg (Value.int _) (by omega), ?_⟩); (conv => whnf))
    | (refine And.intro ?_ ?_; rotate_left; (conv => whnf); rotate_right))
  all_goals rfl

set_option maxRecDepth 100000 in
set_option maxHeartbeats 4000000 in
theorem idx_full (l : List (El .slot)) (hl : l.length ≤ big) (hw : ∀ s ∈ l, anySlot s) : Api Try.prog 57 [.vec .slot l, .lit (.func (.func 35) #[] #[])] (i64 (idxGo posSlot l 0)) := by
  unfold big at hl
  refine Api.of_fin cfg_ok Try.func57 rfl (nt := 17) rfl rfl ?_
  conv => whnf
  refine Runs.loopS cfg_ok (σ := Nat) [0, 1, 7, 8] (fun k => [.vec .slot l, .lit (.func (.func 35) #[] #[]), i64 l.length, i64 k]) (fun _ => []) (fun k => k ≤ l.length ∧ idxGo posSlot (l.drop k) k = idxGo posSlot l 0) (fun k => l.length - k) 0 ⟨by omega, rfl⟩ ?_ ?_
  · conv => whnf
    repeat' (first
      | exact trivial
      | ((first | refine .inl ⟨in64 (by omega) (by omega), ?_⟩ | refine .inl ⟨inU64 (by omega) (by omega), ?_⟩ | refine .inl ⟨inU8 (by omega) (by omega), ?_⟩); (conv => whnf))
      | ((refine ⟨fun hb => ?_, fun hb => ?_⟩) <;> (try simp only [decide_eq_true_eq, decide_eq_false_iff_not, Int.not_lt, Int.not_le, beq_iff_eq, beq_eq_false_iff_ne, bne_iff_ne, bne_eq_false_iff_eq, ne_eq, Decidable.not_not, Bool.not_eq_true', Bool.not_eq_false', Bool.not_eq_true, Bool.not_eq_false, Int.toNat_natCast, Bool.and_eq_true, Bool.or_eq_true, Bool.and_eq_false_iff, Bool.or_eq_false_iff, List.length_nil, List.length_cons] at hb) <;> (first | (exfalso; omega) | contradiction | (conv => whnf)))
      | ((first | refine Draws.of cfg_ok (by kernel_rfl) ?_ | refine ⟨(by kernel_rfl : confB _ _ _ _ _ = true), ?_⟩ | refine ⟨by (first | omega | (simp only [lens, Int.toNat_natCast, bsz, Nat.zero_mul, Nat.zero_add]; omega)), ?_⟩ | refine .inl ⟨by omega, by omega, ?_⟩ | refine .inr ⟨⟨by (first | omega | (simp only [lens, Int.toNat_natCast, bsz, Nat.zero_mul, Nat.zero_add]; omega)), by (first | omega | (simp only [lens, Int.toNat_natCast, bsz, Nat.zero_mul, Nat.zero_add]; omega))⟩, ?_⟩ | refine .inl ⟨⟨by (first | omega | (simp only [lens, Int.toNat_natCast, bsz, Nat.zero_mul, Nat.zero_add]; omega)), by (first | omega | (simp only [lens, Int.toNat_natCast, bsz, Nat.zero_mul, Nat.zero_add]; omega))⟩, ?_⟩ | refine ⟨rfl, ?_⟩ | refine ⟨congrArg (Value.int _) (by omega), ?_⟩); (conv => whnf))
      | (refine And.intro ?_ ?_; rotate_left; (conv => whnf); rotate_right))
  · intro k ⟨hk, he⟩
    by_cases hlt : k < l.length
    · rw [drop_elt hlt] at he
      simp only [idxGo] at he
      conv => whnf
      repeat' (first
        | exact trivial
        | ((first | refine .inl ⟨in64 (by omega) (by omega), ?_⟩ | refine .inl ⟨inU64 (by omega) (by omega), ?_⟩ | refine .inl ⟨inU8 (by omega) (by omega), ?_⟩); (conv => whnf))
        | ((refine ⟨fun hb => ?_, fun hb => ?_⟩) <;> (try simp only [decide_eq_true_eq, decide_eq_false_iff_not, Int.not_lt, Int.not_le, beq_iff_eq, beq_eq_false_iff_ne, bne_iff_ne, bne_eq_false_iff_eq, ne_eq, Decidable.not_not, Bool.not_eq_true', Bool.not_eq_false', Bool.not_eq_true, Bool.not_eq_false, Int.toNat_natCast, Bool.and_eq_true, Bool.or_eq_true, Bool.and_eq_false_iff, Bool.or_eq_false_iff, List.length_nil, List.length_cons] at hb) <;> (first | (exfalso; omega) | contradiction | (conv => whnf)))
        | ((first | (refine isE 35 ?_; refine callApi (set1_api _ (hw _ (elt_mem' (by omega) (by omega)))) rfl rfl ?_) | (refine isD 35 ?_; refine callApiD (set1_api _ (hw _ (elt_mem' (by omega) (by omega)))) rfl rfl ?_) | refine Draws.of cfg_ok (by kernel_rfl) ?_ | refine ⟨(by kernel_rfl : confB _ _ _ _ _ = true), ?_⟩ | refine ⟨by (first | omega | (simp only [lens, Int.toNat_natCast, bsz, Nat.zero_mul, Nat.zero_add]; omega)), ?_⟩ | refine .inl ⟨by omega, by omega, ?_⟩ | refine .inr ⟨⟨by (first | omega | (simp only [lens, Int.toNat_natCast, bsz, Nat.zero_mul, Nat.zero_add]; omega)), by (first | omega | (simp only [lens, Int.toNat_natCast, bsz, Nat.zero_mul, Nat.zero_add]; omega))⟩, ?_⟩ | refine .inl ⟨⟨by (first | omega | (simp only [lens, Int.toNat_natCast, bsz, Nat.zero_mul, Nat.zero_add]; omega)), by (first | omega | (simp only [lens, Int.toNat_natCast, bsz, Nat.zero_mul, Nat.zero_add]; omega))⟩, ?_⟩ | refine ⟨rfl, ?_⟩ | refine ⟨congrArg (Value.int _) (by omega), ?_⟩); (conv => whnf))
        | (refine And.intro ?_ ?_; rotate_left; (conv => whnf); rotate_right))
      · simp only [posSlot, Bool.and_eq_true, Bool.or_eq_true, Bool.not_eq_true', Bool.and_eq_false_iff, Bool.or_eq_false_iff, decide_eq_true_eq, decide_eq_false_iff_not] at hb he
        rw [← he, if_pos hb]
      · simp only [posSlot, Bool.and_eq_true, Bool.or_eq_true, Bool.not_eq_true', Bool.and_eq_false_iff, Bool.or_eq_false_iff, decide_eq_true_eq, decide_eq_false_iff_not] at hb
        refine .to (k + 1) ⟨hlt, ?_⟩ (by omega) ?_
        · rw [← he, if_neg (by simp only [posSlot, Bool.and_eq_true, Bool.or_eq_true, Bool.not_eq_true', Bool.and_eq_false_iff, Bool.or_eq_false_iff, decide_eq_true_eq, decide_eq_false_iff_not]; first | omega | (simp [hb]; done) | (simp_all; done))]
        · conv => whnf
          repeat' (first
            | exact trivial
            | ((first | refine .inl ⟨in64 (by omega) (by omega), ?_⟩ | refine .inl ⟨inU64 (by omega) (by omega), ?_⟩ | refine .inl ⟨inU8 (by omega) (by omega), ?_⟩); (conv => whnf))
            | ((refine ⟨fun hb => ?_, fun hb => ?_⟩) <;> (try simp only [decide_eq_true_eq, decide_eq_false_iff_not, Int.not_lt, Int.not_le, beq_iff_eq, beq_eq_false_iff_ne, bne_iff_ne, bne_eq_false_iff_eq, ne_eq, Decidable.not_not, Bool.not_eq_true', Bool.not_eq_false', Bool.not_eq_true, Bool.not_eq_false, Int.toNat_natCast, Bool.and_eq_true, Bool.or_eq_true, Bool.and_eq_false_iff, Bool.or_eq_false_iff, List.length_nil, List.length_cons] at hb) <;> (first | (exfalso; omega) | contradiction | (conv => whnf)))
            | ((first | refine Draws.of cfg_ok (by kernel_rfl) ?_ | refine ⟨(by kernel_rfl : confB _ _ _ _ _ = true), ?_⟩ | refine ⟨by (first | omega | (simp only [lens, Int.toNat_natCast, bsz, Nat.zero_mul, Nat.zero_add]; omega)), ?_⟩ | refine .inl ⟨by omega, by omega, ?_⟩ | refine .inr ⟨⟨by (first | omega | (simp only [lens, Int.toNat_natCast, bsz, Nat.zero_mul, Nat.zero_add]; omega)), by (first | omega | (simp only [lens, Int.toNat_natCast, bsz, Nat.zero_mul, Nat.zero_add]; omega))⟩, ?_⟩ | refine .inl ⟨⟨by (first | omega | (simp only [lens, Int.toNat_natCast, bsz, Nat.zero_mul, Nat.zero_add]; omega)), by (first | omega | (simp only [lens, Int.toNat_natCast, bsz, Nat.zero_mul, Nat.zero_add]; omega))⟩, ?_⟩ | refine ⟨rfl, ?_⟩ | refine ⟨congrArg (Value.int _) (by omega), ?_⟩); (conv => whnf))
            | (refine And.intro ?_ ?_; rotate_left; (conv => whnf); rotate_right))
    · conv => whnf
      repeat' (first
        | exact trivial
        | ((first | refine .inl ⟨in64 (by omega) (by omega), ?_⟩ | refine .inl ⟨inU64 (by omega) (by omega), ?_⟩ | refine .inl ⟨inU8 (by omega) (by omega), ?_⟩); (conv => whnf))
        | ((refine ⟨fun hb => ?_, fun hb => ?_⟩) <;> (try simp only [decide_eq_true_eq, decide_eq_false_iff_not, Int.not_lt, Int.not_le, beq_iff_eq, beq_eq_false_iff_ne, bne_iff_ne, bne_eq_false_iff_eq, ne_eq, Decidable.not_not, Bool.not_eq_true', Bool.not_eq_false', Bool.not_eq_true, Bool.not_eq_false, Int.toNat_natCast, Bool.and_eq_true, Bool.or_eq_true, Bool.and_eq_false_iff, Bool.or_eq_false_iff, List.length_nil, List.length_cons] at hb) <;> (first | (exfalso; omega) | contradiction | (conv => whnf)))
        | ((first | refine Draws.of cfg_ok (by kernel_rfl) ?_ | refine ⟨(by kernel_rfl : confB _ _ _ _ _ = true), ?_⟩ | refine ⟨by (first | omega | (simp only [lens, Int.toNat_natCast, bsz, Nat.zero_mul, Nat.zero_add]; omega)), ?_⟩ | refine .inl ⟨by omega, by omega, ?_⟩ | refine .inr ⟨⟨by (first | omega | (simp only [lens, Int.toNat_natCast, bsz, Nat.zero_mul, Nat.zero_add]; omega)), by (first | omega | (simp only [lens, Int.toNat_natCast, bsz, Nat.zero_mul, Nat.zero_add]; omega))⟩, ?_⟩ | refine .inl ⟨⟨by (first | omega | (simp only [lens, Int.toNat_natCast, bsz, Nat.zero_mul, Nat.zero_add]; omega)), by (first | omega | (simp only [lens, Int.toNat_natCast, bsz, Nat.zero_mul, Nat.zero_add]; omega))⟩, ?_⟩ | refine ⟨rfl, ?_⟩ | refine ⟨congrArg (Value.int _) (by omega), ?_⟩); (conv => whnf))
        | (refine And.intro ?_ ?_; rotate_left; (conv => whnf); rotate_right))
      have : k = l.length := by omega
      subst this
      simp only [List.drop_length, idxGo] at he
      rw [← he]

set_option maxRecDepth 100000 in
set_option maxHeartbeats 4000000 in
theorem has_full (l : List (El .slot)) (hl : l.length ≤ big) (hw : ∀ s ∈ l, anySlot s) : Api Try.prog 34 [.vec .slot l, .lit (.func (.func 35) #[] #[])] (bol (l.any posSlot)) := by
  refine Api.of_fin cfg_ok Try.func34 rfl (nt := 7) rfl rfl ?_
  conv => whnf
  repeat' (first
    | exact trivial
    | ((first | refine .inl ⟨in64 (by omega) (by omega), ?_⟩ | refine .inl ⟨inU64 (by omega) (by omega), ?_⟩ | refine .inl ⟨inU8 (by omega) (by omega), ?_⟩); (conv => whnf))
    | ((refine ⟨fun hb => ?_, fun hb => ?_⟩) <;> (try simp only [decide_eq_true_eq, decide_eq_false_iff_not, Int.not_lt, Int.not_le, beq_iff_eq, beq_eq_false_iff_ne, bne_iff_ne, bne_eq_false_iff_eq, ne_eq, Decidable.not_not, Bool.not_eq_true', Bool.not_eq_false', Bool.not_eq_true, Bool.not_eq_false, Int.toNat_natCast, Bool.and_eq_true, Bool.or_eq_true, Bool.and_eq_false_iff, Bool.or_eq_false_iff, List.length_nil, List.length_cons] at hb) <;> (first | (exfalso; omega) | contradiction | (conv => whnf)))
    | ((first | (refine isE 57 ?_; refine callApi (idx_full l hl hw) rfl rfl ?_) | (refine isD 57 ?_; refine callApiD (idx_full l hl hw) rfl rfl ?_) | refine Draws.of cfg_ok (by kernel_rfl) ?_ | refine ⟨(by kernel_rfl : confB _ _ _ _ _ = true), ?_⟩ | refine ⟨by (first | omega | (simp only [lens, Int.toNat_natCast, bsz, Nat.zero_mul, Nat.zero_add]; omega)), ?_⟩ | refine .inl ⟨by omega, by omega, ?_⟩ | refine .inr ⟨⟨by (first | omega | (simp only [lens, Int.toNat_natCast, bsz, Nat.zero_mul, Nat.zero_add]; omega)), by (first | omega | (simp only [lens, Int.toNat_natCast, bsz, Nat.zero_mul, Nat.zero_add]; omega))⟩, ?_⟩ | refine .inl ⟨⟨by (first | omega | (simp only [lens, Int.toNat_natCast, bsz, Nat.zero_mul, Nat.zero_add]; omega)), by (first | omega | (simp only [lens, Int.toNat_natCast, bsz, Nat.zero_mul, Nat.zero_add]; omega))⟩, ?_⟩ | refine ⟨rfl, ?_⟩ | refine ⟨congrArg (Value.int _) (by omega), ?_⟩); (conv => whnf))
    | (refine And.intro ?_ ?_; rotate_left; (conv => whnf); rotate_right))
  rw [idxGo_any]



theorem headB_of {c : Chunk} (h : rightB c = true) : c.cells.length = 64 := (rightC_of h).len

set_option maxRecDepth 100000 in
set_option maxHeartbeats 4000000 in
theorem set_api (c : Chunk) (cell i : Int) (hc : OkC c) (hf : FitC c) (h0 : 0 ≤ i) (h1 : i ≤ 255) : Api Try.prog 12 [chunkV c, i64 cell, .lit (.int .u8 i)] (.tup [chunkV (setC c cell i).1, i64 (setC c cell i).2]) := by
  have hrt := cright_api c hc
  have hbx := hf.boxes
  cases hR : rightB c with
  | false =>
    rw [hR] at hrt
    have hs : setC c cell i = (c, 101) := by unfold setC; rw [if_pos hR]
    rw [hs]
    refine Api.of_fin cfg_ok Try.func12 rfl (nt := 73) rfl rfl ?_
    conv => whnf
    repeat' (first
      | exact trivial
      | ((first | refine .inl ⟨in64 (by omega) (by omega), ?_⟩ | refine .inl ⟨inU64 (by omega) (by omega), ?_⟩ | refine .inl ⟨inU8 (by omega) (by omega), ?_⟩); (conv => whnf))
      | ((refine ⟨fun hb => ?_, fun hb => ?_⟩) <;> (try simp only [decide_eq_true_eq, decide_eq_false_iff_not, Int.not_lt, Int.not_le, beq_iff_eq, beq_eq_false_iff_ne, bne_iff_ne, bne_eq_false_iff_eq, ne_eq, Decidable.not_not, Bool.not_eq_true', Bool.not_eq_false', Bool.not_eq_true, Bool.not_eq_false, Int.toNat_natCast, Bool.and_eq_true, Bool.or_eq_true, Bool.and_eq_false_iff, Bool.or_eq_false_iff, List.length_nil, List.length_cons] at hb) <;> (first | (exfalso; omega) | contradiction | (conv => whnf)))
      | ((first | (refine isE 32 ?_; refine callEv (copied_ev c hf) [(390001, 150001), (390003, 150003), (390005, 150005)] rfl ?_ ?_ ?_) | (refine isD 32 ?_; refine callEvD (copied_ev c hf) [(390001, 150001), (390003, 150003), (390005, 150005)] rfl ?_ ?_ ?_)); rotate_left; rotate_left; (conv => whnf); rotate_left; (repeat' (first | exact trivial | (refine ⟨rfl, ?_⟩))); kernel_rfl)
      | ((first | (refine callApi (hrt) rfl rfl ?_) | (refine callApiD (hrt) rfl rfl ?_) | refine Draws.of cfg_ok (by kernel_rfl) ?_ | refine ⟨(by kernel_rfl : confB _ _ _ _ _ = true), ?_⟩ | refine ⟨by (first | omega | (simp only [lens, Int.toNat_natCast, bsz, Nat.zero_mul, Nat.zero_add]; omega)), ?_⟩ | refine .inl ⟨by omega, by omega, ?_⟩ | refine .inr ⟨⟨by (first | omega | (simp only [lens, Int.toNat_natCast, bsz, Nat.zero_mul, Nat.zero_add]; omega)), by (first | omega | (simp only [lens, Int.toNat_natCast, bsz, Nat.zero_mul, Nat.zero_add]; omega))⟩, ?_⟩ | refine .inl ⟨⟨by (first | omega | (simp only [lens, Int.toNat_natCast, bsz, Nat.zero_mul, Nat.zero_add]; omega)), by (first | omega | (simp only [lens, Int.toNat_natCast, bsz, Nat.zero_mul, Nat.zero_add]; omega))⟩, ?_⟩ | refine ⟨rfl, ?_⟩ | refine ⟨congrArg (Value.int _) (by omega), ?_⟩); (conv => whnf))
      | (refine And.intro ?_ ?_; rotate_left; (conv => whnf); rotate_right))
    all_goals simp
  | true =>
    rw [hR] at hrt
    have hRC := rightC_of hR
    have hlen := hRC.len
    by_cases hin : 0 ≤ cell ∧ cell < 64
    · by_cases hit : ¬ (i = 0) ∧ blockB i = false
      · have hs : setC c cell i = (c, 100) := by unfold setC; rw [if_neg (by rw [hR]; simp), if_neg (by omega), if_pos hit]
        rw [hs]
        have hbl := block_api i h0 h1
        rw [hit.2] at hbl
        refine Api.of_fin cfg_ok Try.func12 rfl (nt := 73) rfl rfl ?_
        conv => whnf
        repeat' (first
          | exact trivial
          | ((first | refine .inl ⟨in64 (by omega) (by omega), ?_⟩ | refine .inl ⟨inU64 (by omega) (by omega), ?_⟩ | refine .inl ⟨inU8 (by omega) (by omega), ?_⟩); (conv => whnf))
          | ((refine ⟨fun hb => ?_, fun hb => ?_⟩) <;> (try simp only [decide_eq_true_eq, decide_eq_false_iff_not, Int.not_lt, Int.not_le, beq_iff_eq, beq_eq_false_iff_ne, bne_iff_ne, bne_eq_false_iff_eq, ne_eq, Decidable.not_not, Bool.not_eq_true', Bool.not_eq_false', Bool.not_eq_true, Bool.not_eq_false, Int.toNat_natCast, Bool.and_eq_true, Bool.or_eq_true, Bool.and_eq_false_iff, Bool.or_eq_false_iff, List.length_nil, List.length_cons] at hb) <;> (first | (exfalso; omega) | contradiction | (conv => whnf)))
          | ((first | (refine isE 32 ?_; refine callEv (copied_ev c hf) [(390001, 150001), (390003, 150003), (390005, 150005)] rfl ?_ ?_ ?_) | (refine isD 32 ?_; refine callEvD (copied_ev c hf) [(390001, 150001), (390003, 150003), (390005, 150005)] rfl ?_ ?_ ?_)); rotate_left; rotate_left; (conv => whnf); rotate_left; (repeat' (first | exact trivial | (refine ⟨rfl, ?_⟩))); kernel_rfl)
          | ((first | (refine callApi (hrt) rfl rfl ?_) | (refine callApiD (hrt) rfl rfl ?_) | (refine isE 29 ?_; refine callApi (inside_api _) rfl rfl ?_) | (refine isD 29 ?_; refine callApiD (inside_api _) rfl rfl ?_) | (refine callApi (hbl) rfl rfl ?_) | (refine callApiD (hbl) rfl rfl ?_) | refine Draws.of cfg_ok (by kernel_rfl) ?_ | refine ⟨(by kernel_rfl : confB _ _ _ _ _ = true), ?_⟩ | refine ⟨by (first | omega | (simp only [lens, Int.toNat_natCast, bsz, Nat.zero_mul, Nat.zero_add]; omega)), ?_⟩ | refine .inl ⟨by omega, by omega, ?_⟩ | refine .inr ⟨⟨by (first | omega | (simp only [lens, Int.toNat_natCast, bsz, Nat.zero_mul, Nat.zero_add]; omega)), by (first | omega | (simp only [lens, Int.toNat_natCast, bsz, Nat.zero_mul, Nat.zero_add]; omega))⟩, ?_⟩ | refine .inl ⟨⟨by (first | omega | (simp only [lens, Int.toNat_natCast, bsz, Nat.zero_mul, Nat.zero_add]; omega)), by (first | omega | (simp only [lens, Int.toNat_natCast, bsz, Nat.zero_mul, Nat.zero_add]; omega))⟩, ?_⟩ | refine ⟨rfl, ?_⟩ | refine ⟨congrArg (Value.int _) (by omega), ?_⟩); (conv => whnf))
          | (refine And.intro ?_ ?_; rotate_left; (conv => whnf); rotate_right))
        all_goals simp
      · have hbl := block_api i h0 h1
        have hbi : blockB i = false → i = 0 := fun hbf => by
          rcases Classical.em (i = 0) with h | h
          · exact h
          · exact absurd ⟨h, hbf⟩ hit
        have hle : c.boxes.length ≤ 4000000000000000000 := by omega
        have hfd := find_own c.boxes cell hle hRC.rises
        have hlb := lb_le cell c.boxes
        generalize hat : lb cell c.boxes = at_ at *
        cases hT : thereB c.boxes cell with
        | false =>
          rw [hT] at hfd
          have hs : setC c cell i = ({ c with cells := c.cells.set cell.toNat i, boxes := putB c.boxes cell i }, 0) := by unfold setC; rw [if_neg (by rw [hR]; simp), if_neg (by omega), if_neg hit, if_neg (by rw [hT]; simp)]
          have hd : delB c.boxes cell = c.boxes := by unfold delB; rw [hT]; rfl
          rw [hs]
          by_cases h9 : i = 9
          · have hp : putB c.boxes cell i = c.boxes.take at_ ++ (⟨cell, newBag⟩ : Box) :: c.boxes.drop at_ := by unfold putB; rw [if_pos h9, hd, hat]
            rw [hp]
            subst h9
            refine Api.of_fin cfg_ok Try.func12 rfl (nt := 73) rfl rfl ?_
            conv => whnf
            repeat' (first
              | exact trivial
              | ((first | refine .inl ⟨in64 (by omega) (by omega), ?_⟩ | refine .inl ⟨inU64 (by omega) (by omega), ?_⟩ | refine .inl ⟨inU8 (by omega) (by omega), ?_⟩); (conv => whnf))
              | ((refine ⟨fun hb => ?_, fun hb => ?_⟩) <;> (try simp only [decide_eq_true_eq, decide_eq_false_iff_not, Int.not_lt, Int.not_le, beq_iff_eq, beq_eq_false_iff_ne, bne_iff_ne, bne_eq_false_iff_eq, ne_eq, Decidable.not_not, Bool.not_eq_true', Bool.not_eq_false', Bool.not_eq_true, Bool.not_eq_false, Int.toNat_natCast, Bool.and_eq_true, Bool.or_eq_true, Bool.and_eq_false_iff, Bool.or_eq_false_iff, List.length_nil, List.length_cons] at hb) <;> (first | (exfalso; omega) | contradiction | (conv => whnf)))
              | ((first | (refine isE 32 ?_; refine callEv (copied_ev c hf) [(390001, 150001), (390003, 150003), (390005, 150005)] rfl ?_ ?_ ?_) | (refine isD 32 ?_; refine callEvD (copied_ev c hf) [(390001, 150001), (390003, 150003), (390005, 150005)] rfl ?_ ?_ ?_)); rotate_left; rotate_left; (conv => whnf); rotate_left; (repeat' (first | exact trivial | (refine ⟨rfl, ?_⟩))); kernel_rfl)
              | ((first | (refine callEv (hfd) [(1, 150005)] rfl ?_ ?_ ?_) | (refine callEvD (hfd) [(1, 150005)] rfl ?_ ?_ ?_)); rotate_left; rotate_left; (conv => whnf); rotate_left; (repeat' (first | exact trivial | (refine ⟨rfl, ?_⟩))); kernel_rfl)
              | ((first | (refine isE 37 ?_; refine callEv (insert_evn c.boxes _ at_ ⟨cell, newBag⟩ rfl hlb (by omega)) [(1, 150005), (3, 135), (390001, 150007)] rfl ?_ ?_ ?_) | (refine isD 37 ?_; refine callEvD (insert_evn c.boxes _ at_ ⟨cell, newBag⟩ rfl hlb (by omega)) [(1, 150005), (3, 135), (390001, 150007)] rfl ?_ ?_ ?_)); rotate_left; rotate_left; (conv => whnf); rotate_left; (repeat' (first | exact trivial | (refine ⟨rfl, ?_⟩))); kernel_rfl)
              | ((first | (refine callApi (hrt) rfl rfl ?_) | (refine callApiD (hrt) rfl rfl ?_) | (refine isE 29 ?_; refine callApi (inside_api _) rfl rfl ?_) | (refine isD 29 ?_; refine callApiD (inside_api _) rfl rfl ?_) | (refine callApi (hbl) rfl rfl ?_) | (refine callApiD (hbl) rfl rfl ?_) | (refine isE 16 ?_; refine callApi (new_api 6 (by omega) (by omega)) rfl rfl ?_) | (refine isD 16 ?_; refine callApiD (new_api 6 (by omega) (by omega)) rfl rfl ?_) | refine Draws.of cfg_ok (by kernel_rfl) ?_ | refine ⟨(by kernel_rfl : confB _ _ _ _ _ = true), ?_⟩ | refine ⟨by (first | omega | (simp only [lens, Int.toNat_natCast, bsz, Nat.zero_mul, Nat.zero_add]; omega)), ?_⟩ | refine .inl ⟨by omega, by omega, ?_⟩ | refine .inr ⟨⟨by (first | omega | (simp only [lens, Int.toNat_natCast, bsz, Nat.zero_mul, Nat.zero_add]; omega)), by (first | omega | (simp only [lens, Int.toNat_natCast, bsz, Nat.zero_mul, Nat.zero_add]; omega))⟩, ?_⟩ | refine .inl ⟨⟨by (first | omega | (simp only [lens, Int.toNat_natCast, bsz, Nat.zero_mul, Nat.zero_add]; omega)), by (first | omega | (simp only [lens, Int.toNat_natCast, bsz, Nat.zero_mul, Nat.zero_add]; omega))⟩, ?_⟩ | refine ⟨rfl, ?_⟩ | refine ⟨congrArg (Value.int _) (by omega), ?_⟩); (conv => whnf))
              | (refine And.intro ?_ ?_; rotate_left; (conv => whnf); rotate_right))
            all_goals (try simp only [List.drop_zero, Nat.add_zero])
            all_goals first | (simp; done) | (refine List.take_of_length_le ?_; simp; done) | (refine List.take_of_length_le ?_; simp; omega)
          · have hp : putB c.boxes cell i = c.boxes := by unfold putB; rw [if_neg h9, hd]
            rw [hp]
            refine Api.of_fin cfg_ok Try.func12 rfl (nt := 73) rfl rfl ?_
            conv => whnf
            repeat' (first
              | (exact absurd (hbi (by assumption)) (by assumption); done)
              | exact trivial
              | ((first | refine .inl ⟨in64 (by omega) (by omega), ?_⟩ | refine .inl ⟨inU64 (by omega) (by omega), ?_⟩ | refine .inl ⟨inU8 (by omega) (by omega), ?_⟩); (conv => whnf))
              | ((refine ⟨fun hb => ?_, fun hb => ?_⟩) <;> (try simp only [decide_eq_true_eq, decide_eq_false_iff_not, Int.not_lt, Int.not_le, beq_iff_eq, beq_eq_false_iff_ne, bne_iff_ne, bne_eq_false_iff_eq, ne_eq, Decidable.not_not, Bool.not_eq_true', Bool.not_eq_false', Bool.not_eq_true, Bool.not_eq_false, Int.toNat_natCast, Bool.and_eq_true, Bool.or_eq_true, Bool.and_eq_false_iff, Bool.or_eq_false_iff, List.length_nil, List.length_cons] at hb) <;> (first | (exfalso; omega) | contradiction | (conv => whnf)))
              | ((first | (refine isE 32 ?_; refine callEv (copied_ev c hf) [(390001, 150001), (390003, 150003), (390005, 150005)] rfl ?_ ?_ ?_) | (refine isD 32 ?_; refine callEvD (copied_ev c hf) [(390001, 150001), (390003, 150003), (390005, 150005)] rfl ?_ ?_ ?_)); rotate_left; rotate_left; (conv => whnf); rotate_left; (repeat' (first | exact trivial | (refine ⟨rfl, ?_⟩))); kernel_rfl)
              | ((first | (refine callEv (hfd) [(1, 150005)] rfl ?_ ?_ ?_) | (refine callEvD (hfd) [(1, 150005)] rfl ?_ ?_ ?_)); rotate_left; rotate_left; (conv => whnf); rotate_left; (repeat' (first | exact trivial | (refine ⟨rfl, ?_⟩))); kernel_rfl)
              | ((first | (refine callApi (hrt) rfl rfl ?_) | (refine callApiD (hrt) rfl rfl ?_) | (refine isE 29 ?_; refine callApi (inside_api _) rfl rfl ?_) | (refine isD 29 ?_; refine callApiD (inside_api _) rfl rfl ?_) | (refine callApi (hbl) rfl rfl ?_) | (refine callApiD (hbl) rfl rfl ?_) | refine Draws.of cfg_ok (by kernel_rfl) ?_ | refine ⟨(by kernel_rfl : confB _ _ _ _ _ = true), ?_⟩ | refine ⟨by (first | omega | (simp only [lens, Int.toNat_natCast, bsz, Nat.zero_mul, Nat.zero_add]; omega)), ?_⟩ | refine .inl ⟨by omega, by omega, ?_⟩ | refine .inr ⟨⟨by (first | omega | (simp only [lens, Int.toNat_natCast, bsz, Nat.zero_mul, Nat.zero_add]; omega)), by (first | omega | (simp only [lens, Int.toNat_natCast, bsz, Nat.zero_mul, Nat.zero_add]; omega))⟩, ?_⟩ | refine .inl ⟨⟨by (first | omega | (simp only [lens, Int.toNat_natCast, bsz, Nat.zero_mul, Nat.zero_add]; omega)), by (first | omega | (simp only [lens, Int.toNat_natCast, bsz, Nat.zero_mul, Nat.zero_add]; omega))⟩, ?_⟩ | refine ⟨rfl, ?_⟩ | refine ⟨congrArg (Value.int _) (by omega), ?_⟩); (conv => whnf))
              | (refine And.intro ?_ ?_; rotate_left; (conv => whnf); rotate_right))
            all_goals (try simp only [List.drop_zero, Nat.add_zero])
            all_goals first | (simp; done) | (refine List.take_of_length_le ?_; simp; done) | (refine List.take_of_length_le ?_; simp; omega)
        | true =>
          rw [hT] at hfd
          obtain ⟨hlt, hce⟩ := thereB_lt hT
          rw [hat] at hlt hce
          have hfu := has_full (elt .box c.boxes at_).bag (Nat.le_trans (hc.boxes _ (elt_mem (t := .box) hlt)).2 (Nat.le_refl _)) (fun _ _ => trivial)
          have hfb : fullB (elt .box c.boxes at_).bag = (elt .box c.boxes at_).bag.any posSlot := rfl
          cases hF : fullB (elt .box c.boxes at_).bag with
          | true =>
            rw [← hfb, hF] at hfu
            have hs : setC c cell i = (c, 104) := by unfold setC; rw [if_neg (by rw [hR]; simp), if_neg (by omega), if_neg hit, if_pos (by rw [hT, hat, hF]; simp)]
            rw [hs]
            refine Api.of_fin cfg_ok Try.func12 rfl (nt := 73) rfl rfl ?_
            conv => whnf
            repeat' (first
              | (exact absurd (hbi (by assumption)) (by assumption); done)
              | exact trivial
              | ((first | refine .inl ⟨in64 (by omega) (by omega), ?_⟩ | refine .inl ⟨inU64 (by omega) (by omega), ?_⟩ | refine .inl ⟨inU8 (by omega) (by omega), ?_⟩); (conv => whnf))
              | ((refine ⟨fun hb => ?_, fun hb => ?_⟩) <;> (try simp only [decide_eq_true_eq, decide_eq_false_iff_not, Int.not_lt, Int.not_le, beq_iff_eq, beq_eq_false_iff_ne, bne_iff_ne, bne_eq_false_iff_eq, ne_eq, Decidable.not_not, Bool.not_eq_true', Bool.not_eq_false', Bool.not_eq_true, Bool.not_eq_false, Int.toNat_natCast, Bool.and_eq_true, Bool.or_eq_true, Bool.and_eq_false_iff, Bool.or_eq_false_iff, List.length_nil, List.length_cons] at hb) <;> (first | (exfalso; omega) | contradiction | (conv => whnf)))
              | ((first | (refine isE 32 ?_; refine callEv (copied_ev c hf) [(390001, 150001), (390003, 150003), (390005, 150005)] rfl ?_ ?_ ?_) | (refine isD 32 ?_; refine callEvD (copied_ev c hf) [(390001, 150001), (390003, 150003), (390005, 150005)] rfl ?_ ?_ ?_)); rotate_left; rotate_left; (conv => whnf); rotate_left; (repeat' (first | exact trivial | (refine ⟨rfl, ?_⟩))); kernel_rfl)
              | ((first | (refine callEv (hfd) [(1, 150005)] rfl ?_ ?_ ?_) | (refine callEvD (hfd) [(1, 150005)] rfl ?_ ?_ ?_)); rotate_left; rotate_left; (conv => whnf); rotate_left; (repeat' (first | exact trivial | (refine ⟨rfl, ?_⟩))); kernel_rfl)
              | ((first | (refine callApi (hrt) rfl rfl ?_) | (refine callApiD (hrt) rfl rfl ?_) | (refine isE 29 ?_; refine callApi (inside_api _) rfl rfl ?_) | (refine isD 29 ?_; refine callApiD (inside_api _) rfl rfl ?_) | (refine callApi (hbl) rfl rfl ?_) | (refine callApiD (hbl) rfl rfl ?_) | (refine callApi (hfu) rfl rfl ?_) | (refine callApiD (hfu) rfl rfl ?_) | refine Draws.of cfg_ok (by kernel_rfl) ?_ | refine ⟨(by kernel_rfl : confB _ _ _ _ _ = true), ?_⟩ | refine ⟨by (first | omega | (simp only [lens, Int.toNat_natCast, bsz, Nat.zero_mul, Nat.zero_add]; omega)), ?_⟩ | refine .inl ⟨by omega, by omega, ?_⟩ | refine .inr ⟨⟨by (first | omega | (simp only [lens, Int.toNat_natCast, bsz, Nat.zero_mul, Nat.zero_add]; omega)), by (first | omega | (simp only [lens, Int.toNat_natCast, bsz, Nat.zero_mul, Nat.zero_add]; omega))⟩, ?_⟩ | refine .inl ⟨⟨by (first | omega | (simp only [lens, Int.toNat_natCast, bsz, Nat.zero_mul, Nat.zero_add]; omega)), by (first | omega | (simp only [lens, Int.toNat_natCast, bsz, Nat.zero_mul, Nat.zero_add]; omega))⟩, ?_⟩ | refine ⟨rfl, ?_⟩ | refine ⟨congrArg (Value.int _) (by omega), ?_⟩); (conv => whnf))
              | (refine And.intro ?_ ?_; rotate_left; (conv => whnf); rotate_right))
            all_goals simp
          | false =>
            rw [← hfb, hF] at hfu
            have hs : setC c cell i = ({ c with cells := c.cells.set cell.toNat i, boxes := putB c.boxes cell i }, 0) := by unfold setC; rw [if_neg (by rw [hR]; simp), if_neg (by omega), if_neg hit, if_neg (by rw [hat, hF]; simp)]
            have hd : delB c.boxes cell = c.boxes.take at_ ++ c.boxes.drop (at_ + 1) := by unfold delB; rw [hT, hat]; rfl
            have hdl : at_ + (c.boxes.length - (at_ + 1)) = (c.boxes.take at_ ++ c.boxes.drop (at_ + 1)).length := by simp; omega
            rw [hs]
            by_cases h9 : i = 9
            · have hp : putB c.boxes cell i = (c.boxes.take at_ ++ c.boxes.drop (at_ + 1)).take at_ ++ (⟨cell, newBag⟩ : Box) :: (c.boxes.take at_ ++ c.boxes.drop (at_ + 1)).drop at_ := by unfold putB; rw [if_pos h9, hd, hat]
              rw [hp]
              subst h9
              refine Api.of_fin cfg_ok Try.func12 rfl (nt := 73) rfl rfl ?_
              conv => whnf
              repeat' (first
                | exact trivial
                | ((first | refine .inl ⟨in64 (by omega) (by omega), ?_⟩ | refine .inl ⟨inU64 (by omega) (by omega), ?_⟩ | refine .inl ⟨inU8 (by omega) (by omega), ?_⟩); (conv => whnf))
                | ((refine ⟨fun hb => ?_, fun hb => ?_⟩) <;> (try simp only [decide_eq_true_eq, decide_eq_false_iff_not, Int.not_lt, Int.not_le, beq_iff_eq, beq_eq_false_iff_ne, bne_iff_ne, bne_eq_false_iff_eq, ne_eq, Decidable.not_not, Bool.not_eq_true', Bool.not_eq_false', Bool.not_eq_true, Bool.not_eq_false, Int.toNat_natCast, Bool.and_eq_true, Bool.or_eq_true, Bool.and_eq_false_iff, Bool.or_eq_false_iff, List.length_nil, List.length_cons] at hb) <;> (first | (exfalso; omega) | contradiction | (conv => whnf)))
                | ((first | (refine isE 32 ?_; refine callEv (copied_ev c hf) [(390001, 150001), (390003, 150003), (390005, 150005)] rfl ?_ ?_ ?_) | (refine isD 32 ?_; refine callEvD (copied_ev c hf) [(390001, 150001), (390003, 150003), (390005, 150005)] rfl ?_ ?_ ?_)); rotate_left; rotate_left; (conv => whnf); rotate_left; (repeat' (first | exact trivial | (refine ⟨rfl, ?_⟩))); kernel_rfl)
                | ((first | (refine callEv (hfd) [(1, 150005)] rfl ?_ ?_ ?_) | (refine callEvD (hfd) [(1, 150005)] rfl ?_ ?_ ?_)); rotate_left; rotate_left; (conv => whnf); rotate_left; (repeat' (first | exact trivial | (refine ⟨rfl, ?_⟩))); kernel_rfl)
                | ((first | (refine isE 36 ?_; refine callEv (delete_evn c.boxes _ at_ (at_ + 1) rfl (by omega) (by omega) (by omega)) [(1, 150005)] rfl ?_ ?_ ?_) | (refine isD 36 ?_; refine callEvD (delete_evn c.boxes _ at_ (at_ + 1) rfl (by omega) (by omega) (by omega)) [(1, 150005)] rfl ?_ ?_ ?_)); rotate_left; rotate_left; (conv => whnf); rotate_left; (repeat' (first | exact trivial | (refine ⟨rfl, ?_⟩))); kernel_rfl)
                | ((first | (refine isE 37 ?_; refine callEv (insert_evn (c.boxes.take at_ ++ c.boxes.drop (at_ + 1)) _ at_ ⟨cell, newBag⟩ hdl (by omega) (by omega)) [(1, 150005), (3, 135), (390001, 150007)] rfl ?_ ?_ ?_) | (refine isD 37 ?_; refine callEvD (insert_evn (c.boxes.take at_ ++ c.boxes.drop (at_ + 1)) _ at_ ⟨cell, newBag⟩ hdl (by omega) (by omega)) [(1, 150005), (3, 135), (390001, 150007)] rfl ?_ ?_ ?_)); rotate_left; rotate_left; (conv => whnf); rotate_left; (repeat' (first | exact trivial | (refine ⟨rfl, ?_⟩))); kernel_rfl)
                | ((first | (refine callApi (hrt) rfl rfl ?_) | (refine callApiD (hrt) rfl rfl ?_) | (refine isE 29 ?_; refine callApi (inside_api _) rfl rfl ?_) | (refine isD 29 ?_; refine callApiD (inside_api _) rfl rfl ?_) | (refine callApi (hbl) rfl rfl ?_) | (refine callApiD (hbl) rfl rfl ?_) | (refine callApi (hfu) rfl rfl ?_) | (refine callApiD (hfu) rfl rfl ?_) | (refine isE 16 ?_; refine callApi (new_api 6 (by omega) (by omega)) rfl rfl ?_) | (refine isD 16 ?_; refine callApiD (new_api 6 (by omega) (by omega)) rfl rfl ?_) | refine Draws.of cfg_ok (by kernel_rfl) ?_ | refine ⟨(by kernel_rfl : confB _ _ _ _ _ = true), ?_⟩ | refine ⟨by (first | omega | (simp only [lens, Int.toNat_natCast, bsz, Nat.zero_mul, Nat.zero_add]; omega)), ?_⟩ | refine .inl ⟨by omega, by omega, ?_⟩ | refine .inr ⟨⟨by (first | omega | (simp only [lens, Int.toNat_natCast, bsz, Nat.zero_mul, Nat.zero_add]; omega)), by (first | omega | (simp only [lens, Int.toNat_natCast, bsz, Nat.zero_mul, Nat.zero_add]; omega))⟩, ?_⟩ | refine .inl ⟨⟨by (first | omega | (simp only [lens, Int.toNat_natCast, bsz, Nat.zero_mul, Nat.zero_add]; omega)), by (first | omega | (simp only [lens, Int.toNat_natCast, bsz, Nat.zero_mul, Nat.zero_add]; omega))⟩, ?_⟩ | refine ⟨rfl, ?_⟩ | refine ⟨congrArg (Value.int _) (by omega), ?_⟩); (conv => whnf))
                | (refine And.intro ?_ ?_; rotate_left; (conv => whnf); rotate_right))
              all_goals (try simp only [List.drop_zero, Nat.add_zero])
              all_goals first | (simp; done) | (refine List.take_of_length_le ?_; simp; done) | (refine List.take_of_length_le ?_; simp; omega)
            · have hp : putB c.boxes cell i = c.boxes.take at_ ++ c.boxes.drop (at_ + 1) := by unfold putB; rw [if_neg h9, hd]
              rw [hp]
              refine Api.of_fin cfg_ok Try.func12 rfl (nt := 73) rfl rfl ?_
              conv => whnf
              repeat' (first
                | (exact absurd (hbi (by assumption)) (by assumption); done)
                | exact trivial
                | ((first | refine .inl ⟨in64 (by omega) (by omega), ?_⟩ | refine .inl ⟨inU64 (by omega) (by omega), ?_⟩ | refine .inl ⟨inU8 (by omega) (by omega), ?_⟩); (conv => whnf))
                | ((refine ⟨fun hb => ?_, fun hb => ?_⟩) <;> (try simp only [decide_eq_true_eq, decide_eq_false_iff_not, Int.not_lt, Int.not_le, beq_iff_eq, beq_eq_false_iff_ne, bne_iff_ne, bne_eq_false_iff_eq, ne_eq, Decidable.not_not, Bool.not_eq_true', Bool.not_eq_false', Bool.not_eq_true, Bool.not_eq_false, Int.toNat_natCast, Bool.and_eq_true, Bool.or_eq_true, Bool.and_eq_false_iff, Bool.or_eq_false_iff, List.length_nil, List.length_cons] at hb) <;> (first | (exfalso; omega) | contradiction | (conv => whnf)))
                | ((first | (refine isE 32 ?_; refine callEv (copied_ev c hf) [(390001, 150001), (390003, 150003), (390005, 150005)] rfl ?_ ?_ ?_) | (refine isD 32 ?_; refine callEvD (copied_ev c hf) [(390001, 150001), (390003, 150003), (390005, 150005)] rfl ?_ ?_ ?_)); rotate_left; rotate_left; (conv => whnf); rotate_left; (repeat' (first | exact trivial | (refine ⟨rfl, ?_⟩))); kernel_rfl)
                | ((first | (refine callEv (hfd) [(1, 150005)] rfl ?_ ?_ ?_) | (refine callEvD (hfd) [(1, 150005)] rfl ?_ ?_ ?_)); rotate_left; rotate_left; (conv => whnf); rotate_left; (repeat' (first | exact trivial | (refine ⟨rfl, ?_⟩))); kernel_rfl)
                | ((first | (refine isE 36 ?_; refine callEv (delete_evn c.boxes _ at_ (at_ + 1) rfl (by omega) (by omega) (by omega)) [(1, 150005)] rfl ?_ ?_ ?_) | (refine isD 36 ?_; refine callEvD (delete_evn c.boxes _ at_ (at_ + 1) rfl (by omega) (by omega) (by omega)) [(1, 150005)] rfl ?_ ?_ ?_)); rotate_left; rotate_left; (conv => whnf); rotate_left; (repeat' (first | exact trivial | (refine ⟨rfl, ?_⟩))); kernel_rfl)
                | ((first | (refine callApi (hrt) rfl rfl ?_) | (refine callApiD (hrt) rfl rfl ?_) | (refine isE 29 ?_; refine callApi (inside_api _) rfl rfl ?_) | (refine isD 29 ?_; refine callApiD (inside_api _) rfl rfl ?_) | (refine callApi (hbl) rfl rfl ?_) | (refine callApiD (hbl) rfl rfl ?_) | (refine callApi (hfu) rfl rfl ?_) | (refine callApiD (hfu) rfl rfl ?_) | refine Draws.of cfg_ok (by kernel_rfl) ?_ | refine ⟨(by kernel_rfl : confB _ _ _ _ _ = true), ?_⟩ | refine ⟨by (first | omega | (simp only [lens, Int.toNat_natCast, bsz, Nat.zero_mul, Nat.zero_add]; omega)), ?_⟩ | refine .inl ⟨by omega, by omega, ?_⟩ | refine .inr ⟨⟨by (first | omega | (simp only [lens, Int.toNat_natCast, bsz, Nat.zero_mul, Nat.zero_add]; omega)), by (first | omega | (simp only [lens, Int.toNat_natCast, bsz, Nat.zero_mul, Nat.zero_add]; omega))⟩, ?_⟩ | refine .inl ⟨⟨by (first | omega | (simp only [lens, Int.toNat_natCast, bsz, Nat.zero_mul, Nat.zero_add]; omega)), by (first | omega | (simp only [lens, Int.toNat_natCast, bsz, Nat.zero_mul, Nat.zero_add]; omega))⟩, ?_⟩ | refine ⟨rfl, ?_⟩ | refine ⟨congrArg (Value.int _) (by omega), ?_⟩); (conv => whnf))
                | (refine And.intro ?_ ?_; rotate_left; (conv => whnf); rotate_right))
              all_goals (try simp only [List.drop_zero, Nat.add_zero])
              all_goals first | (simp; done) | (refine List.take_of_length_le ?_; simp; done) | (refine List.take_of_length_le ?_; simp; omega)
    · have hs : setC c cell i = (c, 102) := by unfold setC; rw [if_neg (by rw [hR]; simp), if_pos hin]
      rw [hs]
      refine Api.of_fin cfg_ok Try.func12 rfl (nt := 73) rfl rfl ?_
      conv => whnf
      repeat' (first
        | exact trivial
        | ((first | refine .inl ⟨in64 (by omega) (by omega), ?_⟩ | refine .inl ⟨inU64 (by omega) (by omega), ?_⟩ | refine .inl ⟨inU8 (by omega) (by omega), ?_⟩); (conv => whnf))
        | ((refine ⟨fun hb => ?_, fun hb => ?_⟩) <;> (try simp only [decide_eq_true_eq, decide_eq_false_iff_not, Int.not_lt, Int.not_le, beq_iff_eq, beq_eq_false_iff_ne, bne_iff_ne, bne_eq_false_iff_eq, ne_eq, Decidable.not_not, Bool.not_eq_true', Bool.not_eq_false', Bool.not_eq_true, Bool.not_eq_false, Int.toNat_natCast, Bool.and_eq_true, Bool.or_eq_true, Bool.and_eq_false_iff, Bool.or_eq_false_iff, List.length_nil, List.length_cons] at hb) <;> (first | (exfalso; omega) | contradiction | (conv => whnf)))
        | ((first | (refine isE 32 ?_; refine callEv (copied_ev c hf) [(390001, 150001), (390003, 150003), (390005, 150005)] rfl ?_ ?_ ?_) | (refine isD 32 ?_; refine callEvD (copied_ev c hf) [(390001, 150001), (390003, 150003), (390005, 150005)] rfl ?_ ?_ ?_)); rotate_left; rotate_left; (conv => whnf); rotate_left; (repeat' (first | exact trivial | (refine ⟨rfl, ?_⟩))); kernel_rfl)
        | ((first | (refine callApi (hrt) rfl rfl ?_) | (refine callApiD (hrt) rfl rfl ?_) | (refine isE 29 ?_; refine callApi (inside_api _) rfl rfl ?_) | (refine isD 29 ?_; refine callApiD (inside_api _) rfl rfl ?_) | refine Draws.of cfg_ok (by kernel_rfl) ?_ | refine ⟨(by kernel_rfl : confB _ _ _ _ _ = true), ?_⟩ | refine ⟨by (first | omega | (simp only [lens, Int.toNat_natCast, bsz, Nat.zero_mul, Nat.zero_add]; omega)), ?_⟩ | refine .inl ⟨by omega, by omega, ?_⟩ | refine .inr ⟨⟨by (first | omega | (simp only [lens, Int.toNat_natCast, bsz, Nat.zero_mul, Nat.zero_add]; omega)), by (first | omega | (simp only [lens, Int.toNat_natCast, bsz, Nat.zero_mul, Nat.zero_add]; omega))⟩, ?_⟩ | refine .inl ⟨⟨by (first | omega | (simp only [lens, Int.toNat_natCast, bsz, Nat.zero_mul, Nat.zero_add]; omega)), by (first | omega | (simp only [lens, Int.toNat_natCast, bsz, Nat.zero_mul, Nat.zero_add]; omega))⟩, ?_⟩ | refine ⟨rfl, ?_⟩ | refine ⟨congrArg (Value.int _) (by omega), ?_⟩); (conv => whnf))
        | (refine And.intro ?_ ?_; rotate_left; (conv => whnf); rotate_right))
      all_goals simp

end Go.Proofs.Ytokdgkdpdepaeaa
