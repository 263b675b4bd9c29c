
/- chunk.Bytes: the function. -/
import Derived.Test.YtokdgkdpdepaeaaBytes
set_option linter.unusedSimpArgs false
set_option linter.unusedVariables false
namespace Go.Proofs.Ytokdgkdpdepaeaa
open Go Go.RowKit Eng

theorem rightGo_boxes : ∀ (l : List Int) (k : Nat) (bs : List Box), rightGo l k bs = some [] → bs.length ≤ l.length ∧ ∀ b ∈ bs, b.bag.length = 6 ∧ bagOk b.bag = true
  | [], k, bs, h => by simp [rightGo] at h; subst h; simp
  | i :: r, k, bs, h => by
    simp only [rightGo] at h
    split at h
    · split at h
      · cases bs with
        | nil => cases h
        | cons b bs =>
          simp only at h
          split at h
          · rename_i hb
            obtain ⟨h1, h2⟩ := rightGo_boxes r (k + 1) bs h
            have hbk : b.bag.length = 6 ∧ bagOk b.bag = true := by simp only [boxAt, Bool.and_eq_true, beq_iff_eq, decide_eq_true_eq] at hb; exact ⟨by omega, hb.2.2⟩
            refine ⟨by simp only [List.length_cons]; omega, fun x hx => ?_⟩
            rcases List.mem_cons.1 hx with rfl | hx
            · exact hbk
            · exact h2 x hx
          · cases h
      · obtain ⟨h1, h2⟩ := rightGo_boxes r (k + 1) bs h
        exact ⟨by simp only [List.length_cons]; omega, h2⟩
    · cases h

theorem stackN_le (i : Int) : stackN i ≤ 16 := by unfold stackN; (repeat' split) <;> omega
theorem okN_slot {s : Slot} (h : badSlot s = false) : 0 ≤ s.n ∧ s.n ≤ 16 := by
  have := stackN_le s.item
  simp only [badSlot, Bool.and_eq_false_iff, Bool.or_eq_false_iff, Bool.not_eq_false', Bool.and_eq_true, beq_iff_eq, decide_eq_false_iff_not] at h
  omega
theorem okN_heap {h : Heap} (hb : badHeap h = false) : 0 ≤ h.cell ∧ h.cell < 64 ∧ 1 ≤ h.slot.n ∧ h.slot.n ≤ 16 := by
  have := stackN_le h.slot.item
  simp only [badHeap, someB, Bool.or_eq_false_iff, Bool.not_eq_false', Bool.and_eq_true, decide_eq_true_eq] at hb
  omega
theorem any_false {α : Type} {p : α → Bool} {l : List α} (h : l.any p = false) {a : α} (ha : a ∈ l) : p a = false := by
  cases hp : p a with
  | false => rfl
  | true => rw [List.any_eq_true.2 ⟨a, ha, hp⟩] at h; cases h

def headL (c : Chunk) : List Int := putL [c.x, c.y]
def heapL (h : Heap) : List Int := putL [h.cell, h.slot.item, h.slot.n]
def slotL (s : Slot) : List Int := putL [s.item, s.n]
def boxL (b : Box) : List Int := b.bag.flatMap slotL
def bytesC (c : Chunk) : List Int := ((putL [c.x, c.y] ++ c.cells) ++ putL [(c.heaps.length : Int)]) ++ c.heaps.flatMap heapL ++ c.boxes.flatMap boxL

theorem flatMap_len {α : Type} (f : α → List Int) (m : Nat) : ∀ (l : List α), (∀ a ∈ l, (f a).length ≤ m) → (l.flatMap f).length ≤ l.length * m
  | [], _ => by simp
  | a :: r, h => by
    simp only [List.flatMap_cons, List.length_append, List.length_cons, Nat.succ_mul]
    have := h a (by simp)
    have := flatMap_len f m r (fun x hx => h x (by simp [hx]))
    omega
theorem app_next (P : List Int) (l : List Int) (k : Nat) (h : k < l.length) : List.take (P.length + k + 1) (List.take (P.length + k) (P ++ l.take k) ++ [elt .u8 l k]) = P ++ l.take (k + 1) := by
  have h1 : (P ++ l.take k).length = P.length + k := by simp; omega
  rw [← h1, List.take_length, List.take_of_length_le (by simp only [List.length_append, List.length_cons, List.length_nil]; omega)]
  have := elt_get .u8 l k h
  rw [List.take_add_one, this]
  simp
theorem put3 (a b c : Int) : putL [a, b, c] = putL [a, b, c] := rfl
theorem flatMap_take {t : Ty} {l : List (El t)} (f : El t → List Int) {k : Nat} (h : k < l.length) : (l.take (k + 1)).flatMap f = (l.take k).flatMap f ++ f (elt t l k) := by
  have := elt_get t l k h
  rw [List.take_add_one, this]
  simp
theorem heapL_len (h : Heap) : (heapL h).length ≤ 30 := putL_len _
theorem slotL_len (s : Slot) : (slotL s).length ≤ 20 := putL_len _

theorem grow_len {t : Ty} {l : List (El t)} {f : El t → List Int} {k : Nat} (Q : List Int) (h : k < l.length) {v : List Int} (hv : f (elt t l k) = v) : Q.length + ((l.take k).flatMap f).length + v.length = Q.length + ((l.take (k + 1)).flatMap f).length := by
  rw [flatMap_take f h, hv, List.length_append, Nat.add_assoc]
theorem grow_row {t : Ty} {l : List (El t)} {f : El t → List Int} {k : Nat} (Q : List Int) (h : k < l.length) {v : List Int} (hv : f (elt t l k) = v) : List.take (Q.length + ((l.take k).flatMap f).length + v.length) (Q ++ (l.take k).flatMap f ++ v) = Q ++ (l.take (k + 1)).flatMap f := by
  rw [flatMap_take f h, hv, List.take_of_length_le (by simp only [List.length_append]; omega), List.append_assoc]

set_option maxRecDepth 100000 in
set_option maxHeartbeats 4000000 in
theorem bytes_api (c : Chunk) (hc : OkC c) : Api Try.prog 24 [chunkV c] (.tup [.vec .u8 (if rightB c = true then bytesC c else []), i64 (if rightB c = true then 0 else 101)]) := by
  have hrt := cright_api c hc
  cases hR : rightB c with
  | false =>
    rw [hR] at hrt
    rw [if_neg (by simp), if_neg (by simp)]
    refine Api.of_fin cfg_ok Try.func24 rfl (nt := 87) rfl rfl ?_
    conv => whnf
    repeat' (first
      | exact trivial
      | ((first | refine .inl ⟨in64 (by omega) (by omega), ?_⟩ | refine .inl ⟨inU64 (by omega) (by omega), ?_⟩ | refine .inl ⟨inU8 (by omega) (by omega), ?_⟩); (conv => whnf))
      | ((refine ⟨fun hb => ?_, fun hb => ?_⟩) <;> (try simp only [decide_eq_true_eq, decide_eq_false_iff_not, Int.not_lt, Int.not_le, beq_iff_eq, beq_eq_false_iff_ne, bne_iff_ne, bne_eq_false_iff_eq, ne_eq, Decidable.not_not, Bool.not_eq_true', Bool.not_eq_false', Bool.not_eq_true, Bool.not_eq_false, Int.toNat_natCast, Bool.and_eq_true, Bool.or_eq_true, Bool.and_eq_false_iff, Bool.or_eq_false_iff, List.length_nil, List.length_cons] at hb) <;> (first | (exfalso; omega) | contradiction | (conv => whnf)))
      | ((first | (refine callApi (hrt) rfl rfl ?_) | (refine callApiD (hrt) rfl rfl ?_) | refine Draws.of cfg_ok (by kernel_rfl) ?_ | refine ⟨(by kernel_rfl : confB _ _ _ _ _ = true), ?_⟩ | refine ⟨by (first | omega | (simp only [lens, Int.toNat_natCast, bsz, Nat.zero_mul, Nat.zero_add]; omega)), ?_⟩ | refine .inl ⟨by omega, by omega, ?_⟩ | refine .inr ⟨⟨by (first | omega | (simp only [lens, Int.toNat_natCast, bsz, Nat.zero_mul, Nat.zero_add]; omega)), by (first | omega | (simp only [lens, Int.toNat_natCast, bsz, Nat.zero_mul, Nat.zero_add]; omega))⟩, ?_⟩ | refine .inl ⟨⟨by (first | omega | (simp only [lens, Int.toNat_natCast, bsz, Nat.zero_mul, Nat.zero_add]; omega)), by (first | omega | (simp only [lens, Int.toNat_natCast, bsz, Nat.zero_mul, Nat.zero_add]; omega))⟩, ?_⟩ | refine ⟨rfl, ?_⟩ | refine ⟨congrArg (Value.int _) (by omega), ?_⟩); (conv => whnf))
      | (refine And.intro ?_ ?_; rotate_left; (conv => whnf); rotate_right))
  | true =>
    rw [hR] at hrt
    rw [if_pos rfl, if_pos rfl]
    have hRC := rightC_of hR
    have hlen := hRC.len
    have hH := hRC.head
    simp only [headB, Bool.and_eq_true, decide_eq_true_eq] at hH
    obtain ⟨hx0, hy0, hx1, hy1, -, hh32⟩ := hH
    obtain ⟨hbl, hbx⟩ := rightGo_boxes _ _ _ hRC.go
    refine Api.of_fin cfg_ok Try.func24 rfl (nt := 87) rfl rfl ?_
    conv => whnf
    have hp0 : (putL [c.x, c.y]).length ≤ 20 := putL_len _
    have hp1 : (putL [(c.heaps.length : Int)]).length ≤ 10 := putL_len _
    generalize hP0 : putL [c.x, c.y] = P0 at *
    repeat' (first
      | exact trivial
      | ((first | refine .inl ⟨in64 (by omega) (by omega), ?_⟩ | refine .inl ⟨inU64 (by omega) (by omega), ?_⟩ | refine .inl ⟨inU8 (by omega) (by omega), ?_⟩); (conv => whnf))
      | ((refine ⟨fun hb => ?_, fun hb => ?_⟩) <;> (try simp only [decide_eq_true_eq, decide_eq_false_iff_not, Int.not_lt, Int.not_le, beq_iff_eq, beq_eq_false_iff_ne, bne_iff_ne, bne_eq_false_iff_eq, ne_eq, Decidable.not_not, Bool.not_eq_true', Bool.not_eq_false', Bool.not_eq_true, Bool.not_eq_false, Int.toNat_natCast, Bool.and_eq_true, Bool.or_eq_true, Bool.and_eq_false_iff, Bool.or_eq_false_iff, List.length_nil, List.length_cons] at hb) <;> (first | (exfalso; omega) | contradiction | (conv => whnf)))
      | ((first | (refine callEv (hP0 ▸ put_nil [c.x, c.y] _ rfl (by simp [okN]; omega) (by simp)) [(0, 8), (3, 47), (390001, 150001)] rfl ?_ ?_ ?_) | (refine callEvD (hP0 ▸ put_nil [c.x, c.y] _ rfl (by simp [okN]; omega) (by simp)) [(0, 8), (3, 47), (390001, 150001)] rfl ?_ ?_ ?_)); rotate_left; rotate_left; (conv => whnf); rotate_left; (repeat' (first | exact trivial | (refine ⟨rfl, ?_⟩))); kernel_rfl)
      | ((first | (refine callApi (hrt) rfl rfl ?_) | (refine callApiD (hrt) rfl rfl ?_) | refine Draws.of cfg_ok (by kernel_rfl) ?_ | refine ⟨(by kernel_rfl : confB _ _ _ _ _ = true), ?_⟩ | refine ⟨by (first | omega | (simp only [lens, Int.toNat_natCast, bsz, Nat.zero_mul, Nat.zero_add]; omega)), ?_⟩ | refine .inl ⟨by omega, by omega, ?_⟩ | refine .inr ⟨⟨by (first | omega | (simp only [lens, Int.toNat_natCast, bsz, Nat.zero_mul, Nat.zero_add]; omega)), by (first | omega | (simp only [lens, Int.toNat_natCast, bsz, Nat.zero_mul, Nat.zero_add]; omega))⟩, ?_⟩ | refine .inl ⟨⟨by (first | omega | (simp only [lens, Int.toNat_natCast, bsz, Nat.zero_mul, Nat.zero_add]; omega)), by (first | omega | (simp only [lens, Int.toNat_natCast, bsz, Nat.zero_mul, Nat.zero_add]; omega))⟩, ?_⟩ | refine ⟨rfl, ?_⟩ | refine ⟨congrArg (Value.int _) (by omega), ?_⟩); (conv => whnf))
      | (refine And.intro ?_ ?_; rotate_left; (conv => whnf); rotate_right))
    refine Runs.loopS cfg_ok (σ := Nat) [1, 4, 5, 26, 27, 28] (fun k => [.ptr 2 0, .ptr 8 0, .clo (.func 46) [] [.ptr 8 0], .vec .u8 c.cells, i64 c.cells.length, i64 k]) (fun k => [(2, .box (chunkC c)), (8, .box [.own .u8 150001 0 (P0.length + k) none]), (150001, .row .u8 (P0 ++ c.cells.take k))])
      (fun k => k ≤ c.cells.length) (fun k => c.cells.length - k) 0 (by omega) ?_ ?_
    · conv => whnf
      repeat' (first
        | exact trivial
        | ((first | refine .inl ⟨in64 (by omega) (by omega), ?_⟩ | refine .inl ⟨inU64 (by omega) (by omega), ?_⟩ | refine .inl ⟨inU8 (by omega) (by omega), ?_⟩); (conv => whnf))
        | ((refine ⟨fun hb => ?_, fun hb => ?_⟩) <;> (try simp only [decide_eq_true_eq, decide_eq_false_iff_not, Int.not_lt, Int.not_le, beq_iff_eq, beq_eq_false_iff_ne, bne_iff_ne, bne_eq_false_iff_eq, ne_eq, Decidable.not_not, Bool.not_eq_true', Bool.not_eq_false', Bool.not_eq_true, Bool.not_eq_false, Int.toNat_natCast, Bool.and_eq_true, Bool.or_eq_true, Bool.and_eq_false_iff, Bool.or_eq_false_iff, List.length_nil, List.length_cons] at hb) <;> (first | (exfalso; omega) | contradiction | (conv => whnf)))
        | ((first | refine Draws.of cfg_ok (by kernel_rfl) ?_ | refine ⟨(by kernel_rfl : confB _ _ _ _ _ = true), ?_⟩ | refine ⟨by (first | omega | (simp only [lens, Int.toNat_natCast, bsz, Nat.zero_mul, Nat.zero_add]; omega)), ?_⟩ | refine .inl ⟨by omega, by omega, ?_⟩ | refine .inr ⟨⟨by (first | omega | (simp only [lens, Int.toNat_natCast, bsz, Nat.zero_mul, Nat.zero_add]; omega)), by (first | omega | (simp only [lens, Int.toNat_natCast, bsz, Nat.zero_mul, Nat.zero_add]; omega))⟩, ?_⟩ | refine .inl ⟨⟨by (first | omega | (simp only [lens, Int.toNat_natCast, bsz, Nat.zero_mul, Nat.zero_add]; omega)), by (first | omega | (simp only [lens, Int.toNat_natCast, bsz, Nat.zero_mul, Nat.zero_add]; omega))⟩, ?_⟩ | refine ⟨rfl, ?_⟩ | refine ⟨congrArg (Value.int _) (by omega), ?_⟩); (conv => whnf))
        | (refine And.intro ?_ ?_; rotate_left; (conv => whnf); rotate_right))
      all_goals first | rfl | exact List.take_length | (simp; done)
    · intro k hk
      by_cases hlt : k < c.cells.length
      · conv => whnf
        repeat' (first
          | exact trivial
          | ((first | refine .inl ⟨in64 (by omega) (by omega), ?_⟩ | refine .inl ⟨inU64 (by omega) (by omega), ?_⟩ | refine .inl ⟨inU8 (by omega) (by omega), ?_⟩); (conv => whnf))
          | ((refine ⟨fun hb => ?_, fun hb => ?_⟩) <;> (try simp only [decide_eq_true_eq, decide_eq_false_iff_not, Int.not_lt, Int.not_le, beq_iff_eq, beq_eq_false_iff_ne, bne_iff_ne, bne_eq_false_iff_eq, ne_eq, Decidable.not_not, Bool.not_eq_true', Bool.not_eq_false', Bool.not_eq_true, Bool.not_eq_false, Int.toNat_natCast, Bool.and_eq_true, Bool.or_eq_true, Bool.and_eq_false_iff, Bool.or_eq_false_iff, List.length_nil, List.length_cons] at hb) <;> (first | (exfalso; omega) | contradiction | (conv => whnf)))
          | ((first | refine Draws.of cfg_ok (by kernel_rfl) ?_ | refine ⟨(by kernel_rfl : confB _ _ _ _ _ = true), ?_⟩ | refine ⟨by (first | omega | (simp only [lens, Int.toNat_natCast, bsz, Nat.zero_mul, Nat.zero_add]; omega)), ?_⟩ | refine .inl ⟨by omega, by omega, ?_⟩ | refine .inr ⟨⟨by (first | omega | (simp only [lens, Int.toNat_natCast, bsz, Nat.zero_mul, Nat.zero_add]; omega)), by (first | omega | (simp only [lens, Int.toNat_natCast, bsz, Nat.zero_mul, Nat.zero_add]; omega))⟩, ?_⟩ | refine .inl ⟨⟨by (first | omega | (simp only [lens, Int.toNat_natCast, bsz, Nat.zero_mul, Nat.zero_add]; omega)), by (first | omega | (simp only [lens, Int.toNat_natCast, bsz, Nat.zero_mul, Nat.zero_add]; omega))⟩, ?_⟩ | refine ⟨rfl, ?_⟩ | refine ⟨congrArg (Value.int _) (by omega), ?_⟩); (conv => whnf))
          | (refine And.intro ?_ ?_; rotate_left; (conv => whnf); rotate_right))
        refine .to (k + 1) hlt (by omega) ?_
        conv => whnf
        repeat' (first
          | exact trivial
          | ((first | refine .inl ⟨in64 (by omega) (by omega), ?_⟩ | refine .inl ⟨inU64 (by omega) (by omega), ?_⟩ | refine .inl ⟨inU8 (by omega) (by omega), ?_⟩); (conv => whnf))
          | ((refine ⟨fun hb => ?_, fun hb => ?_⟩) <;> (try simp only [decide_eq_true_eq, decide_eq_false_iff_not, Int.not_lt, Int.not_le, beq_iff_eq, beq_eq_false_iff_ne, bne_iff_ne, bne_eq_false_iff_eq, ne_eq, Decidable.not_not, Bool.not_eq_true', Bool.not_eq_false', Bool.not_eq_true, Bool.not_eq_false, Int.toNat_natCast, Bool.and_eq_true, Bool.or_eq_true, Bool.and_eq_false_iff, Bool.or_eq_false_iff, List.length_nil, List.length_cons] at hb) <;> (first | (exfalso; omega) | contradiction | (conv => whnf)))
          | ((first | refine Draws.of cfg_ok (by kernel_rfl) ?_ | refine ⟨(by kernel_rfl : confB _ _ _ _ _ = true), ?_⟩ | refine ⟨by (first | omega | (simp only [lens, Int.toNat_natCast, bsz, Nat.zero_mul, Nat.zero_add]; omega)), ?_⟩ | refine .inl ⟨by omega, by omega, ?_⟩ | refine .inr ⟨⟨by (first | omega | (simp only [lens, Int.toNat_natCast, bsz, Nat.zero_mul, Nat.zero_add]; omega)), by (first | omega | (simp only [lens, Int.toNat_natCast, bsz, Nat.zero_mul, Nat.zero_add]; omega))⟩, ?_⟩ | refine .inl ⟨⟨by (first | omega | (simp only [lens, Int.toNat_natCast, bsz, Nat.zero_mul, Nat.zero_add]; omega)), by (first | omega | (simp only [lens, Int.toNat_natCast, bsz, Nat.zero_mul, Nat.zero_add]; omega))⟩, ?_⟩ | refine ⟨rfl, ?_⟩ | refine ⟨congrArg (Value.int _) (by omega), ?_⟩); (conv => whnf))
          | (refine And.intro ?_ ?_; rotate_left; (conv => whnf); rotate_right))
        exact app_next P0 c.cells k hlt
      · obtain rfl : k = c.cells.length := by omega
        rw [List.take_length]
        conv => whnf
        repeat' (first
          | exact trivial
          | ((first | refine .inl ⟨in64 (by omega) (by omega), ?_⟩ | refine .inl ⟨inU64 (by omega) (by omega), ?_⟩ | refine .inl ⟨inU8 (by omega) (by omega), ?_⟩); (conv => whnf))
          | ((refine ⟨fun hb => ?_, fun hb => ?_⟩) <;> (try simp only [decide_eq_true_eq, decide_eq_false_iff_not, Int.not_lt, Int.not_le, beq_iff_eq, beq_eq_false_iff_ne, bne_iff_ne, bne_eq_false_iff_eq, ne_eq, Decidable.not_not, Bool.not_eq_true', Bool.not_eq_false', Bool.not_eq_true, Bool.not_eq_false, Int.toNat_natCast, Bool.and_eq_true, Bool.or_eq_true, Bool.and_eq_false_iff, Bool.or_eq_false_iff, List.length_nil, List.length_cons] at hb) <;> (first | (exfalso; omega) | contradiction | (conv => whnf)))
          | ((first | (refine callEv (put_ev (P0 ++ c.cells) _ [(c.heaps.length : Int)] _ rfl (by rw [List.length_append]) (by simp [okN]; omega) (by simp; omega)) [(0, 8), (1, 150001), (3, 83), (390001, 150003)] rfl ?_ ?_ ?_) | (refine callEvD (put_ev (P0 ++ c.cells) _ [(c.heaps.length : Int)] _ rfl (by rw [List.length_append]) (by simp [okN]; omega) (by simp; omega)) [(0, 8), (1, 150001), (3, 83), (390001, 150003)] rfl ?_ ?_ ?_)); rotate_left; rotate_left; (conv => whnf); rotate_left; (repeat' (first | exact trivial | (refine ⟨rfl, ?_⟩))); kernel_rfl)
          | ((first | refine Draws.of cfg_ok (by kernel_rfl) ?_ | refine ⟨(by kernel_rfl : confB _ _ _ _ _ = true), ?_⟩ | refine ⟨by (first | omega | (simp only [lens, Int.toNat_natCast, bsz, Nat.zero_mul, Nat.zero_add]; omega)), ?_⟩ | refine .inl ⟨by omega, by omega, ?_⟩ | refine .inr ⟨⟨by (first | omega | (simp only [lens, Int.toNat_natCast, bsz, Nat.zero_mul, Nat.zero_add]; omega)), by (first | omega | (simp only [lens, Int.toNat_natCast, bsz, Nat.zero_mul, Nat.zero_add]; omega))⟩, ?_⟩ | refine .inl ⟨⟨by (first | omega | (simp only [lens, Int.toNat_natCast, bsz, Nat.zero_mul, Nat.zero_add]; omega)), by (first | omega | (simp only [lens, Int.toNat_natCast, bsz, Nat.zero_mul, Nat.zero_add]; omega))⟩, ?_⟩ | refine ⟨rfl, ?_⟩ | refine ⟨congrArg (Value.int _) (by omega), ?_⟩); (conv => whnf))
          | (refine And.intro ?_ ?_; rotate_left; (conv => whnf); rotate_right))
        generalize hP1 : putL [(c.heaps.length : Int)] = P1 at *
        have hQl : (P0 ++ c.cells ++ P1).length ≤ 94 := by simp only [List.length_append]; omega
        have hQe : P0.length + c.cells.length + P1.length = (P0 ++ c.cells ++ P1).length := by simp only [List.length_append]
        refine Runs.loopS cfg_ok (σ := Nat) [1, 4, 5, 44, 45, 46] (fun k => [.ptr 2 0, .ptr 8 0, .clo (.func 46) [] [.ptr 8 0], .vec .heap c.heaps, i64 c.heaps.length, i64 k]) (fun k => [(2, .box (chunkC c)), (8, .box [.own .u8 150003 0 ((P0 ++ c.cells ++ P1).length + ((c.heaps.take k).flatMap heapL).length) none]), (150003, .row .u8 (P0 ++ c.cells ++ P1 ++ (c.heaps.take k).flatMap heapL))])
          (fun k => k ≤ c.heaps.length) (fun k => c.heaps.length - k) 0 (by omega) ?_ ?_
        · conv => whnf
          repeat' (first
            | exact trivial
            | ((first | refine .inl ⟨in64 (by omega) (by omega), ?_⟩ | refine .inl ⟨inU64 (by omega) (by omega), ?_⟩ | refine .inl ⟨inU8 (by omega) (by omega), ?_⟩); (conv => whnf))
            | ((refine ⟨fun hb => ?_, fun hb => ?_⟩) <;> (try simp only [decide_eq_true_eq, decide_eq_false_iff_not, Int.not_lt, Int.not_le, beq_iff_eq, beq_eq_false_iff_ne, bne_iff_ne, bne_eq_false_iff_eq, ne_eq, Decidable.not_not, Bool.not_eq_true', Bool.not_eq_false', Bool.not_eq_true, Bool.not_eq_false, Int.toNat_natCast, Bool.and_eq_true, Bool.or_eq_true, Bool.and_eq_false_iff, Bool.or_eq_false_iff, List.length_nil, List.length_cons] at hb) <;> (first | (exfalso; omega) | contradiction | (conv => whnf)))
            | ((first | refine Draws.of cfg_ok (by kernel_rfl) ?_ | refine ⟨(by kernel_rfl : confB _ _ _ _ _ = true), ?_⟩ | refine ⟨by (first | omega | (simp only [lens, Int.toNat_natCast, bsz, Nat.zero_mul, Nat.zero_add]; omega)), ?_⟩ | refine .inl ⟨by omega, by omega, ?_⟩ | refine .inr ⟨⟨by (first | omega | (simp only [lens, Int.toNat_natCast, bsz, Nat.zero_mul, Nat.zero_add]; omega)), by (first | omega | (simp only [lens, Int.toNat_natCast, bsz, Nat.zero_mul, Nat.zero_add]; omega))⟩, ?_⟩ | refine .inl ⟨⟨by (first | omega | (simp only [lens, Int.toNat_natCast, bsz, Nat.zero_mul, Nat.zero_add]; omega)), by (first | omega | (simp only [lens, Int.toNat_natCast, bsz, Nat.zero_mul, Nat.zero_add]; omega))⟩, ?_⟩ | refine ⟨rfl, ?_⟩ | refine ⟨congrArg (Value.int _) (by omega), ?_⟩); (conv => whnf))
            | (refine And.intro ?_ ?_; rotate_left; (conv => whnf); rotate_right))
          · show _ = _ + (List.flatMap heapL (List.take 0 c.heaps)).length
            rw [hQe]; rfl
          · rw [hQe, List.take_length]; simp
        · intro k hk
          have hfl := flatMap_len heapL 30 (c.heaps.take k) (fun a _ => heapL_len a)
          rw [List.length_take] at hfl
          generalize hQ : P0 ++ c.cells ++ P1 = Q at *
          by_cases hlt : k < c.heaps.length
          · obtain ⟨ha1, ha2, ha3, ha4⟩ := okN_heap (any_false hRC.heaps (elt_mem (t := .heap) hlt))
            obtain ⟨hb1, hb2⟩ : 0 ≤ (elt .heap c.heaps k).slot.item ∧ (elt .heap c.heaps k).slot.item ≤ 255 := hc.heaps _ (elt_mem (t := .heap) hlt)
            have hi1 : -9223372036854775808 ≤ (elt .heap c.heaps k).slot.item := by omega
            have hi2 : (elt .heap c.heaps k).slot.item ≤ 9223372036854775807 := by omega
            have hok : ∀ z ∈ [(elt .heap c.heaps k).cell, (elt .heap c.heaps k).slot.item, (elt .heap c.heaps k).slot.n], okN z := by
              intro z hz
              simp only [List.mem_cons, List.not_mem_nil, or_false] at hz
              rcases hz with rfl | rfl | rfl <;> (unfold okN; omega)
            have hput := put_ev (Q ++ (c.heaps.take k).flatMap heapL) _ [(elt .heap c.heaps k).cell, (elt .heap c.heaps k).slot.item, (elt .heap c.heaps k).slot.n] _ rfl (by rw [List.length_append]) hok (by simp only [List.length_append, List.length_cons, List.length_nil]; omega)
            conv => whnf
            repeat' (first
              | exact trivial
              | ((first | refine .inl ⟨in64 (by omega) (by omega), ?_⟩ | refine .inl ⟨inU64 (by omega) (by omega), ?_⟩ | refine .inl ⟨inU8 (by omega) (by omega), ?_⟩); (conv => whnf))
              | ((refine ⟨fun hb => ?_, fun hb => ?_⟩) <;> (try simp only [decide_eq_true_eq, decide_eq_false_iff_not, Int.not_lt, Int.not_le, beq_iff_eq, beq_eq_false_iff_ne, bne_iff_ne, bne_eq_false_iff_eq, ne_eq, Decidable.not_not, Bool.not_eq_true', Bool.not_eq_false', Bool.not_eq_true, Bool.not_eq_false, Int.toNat_natCast, Bool.and_eq_true, Bool.or_eq_true, Bool.and_eq_false_iff, Bool.or_eq_false_iff, List.length_nil, List.length_cons] at hb) <;> (first | (exfalso; omega) | contradiction | (conv => whnf)))
              | ((first | (refine callEv (hput) [(0, 8), (1, 150003), (3, 121), (390001, 150005)] rfl ?_ ?_ ?_) | (refine callEvD (hput) [(0, 8), (1, 150003), (3, 121), (390001, 150005)] rfl ?_ ?_ ?_)); rotate_left; rotate_left; (conv => whnf); rotate_left; (repeat' (first | exact trivial | (refine ⟨rfl, ?_⟩))); kernel_rfl)
              | (refine .inl ⟨in64 hi1 hi2, ?_⟩; (conv => whnf))
              | ((first | refine Draws.of cfg_ok (by kernel_rfl) ?_ | refine ⟨(by kernel_rfl : confB _ _ _ _ _ = true), ?_⟩ | refine ⟨by (first | omega | (simp only [lens, Int.toNat_natCast, bsz, Nat.zero_mul, Nat.zero_add]; omega)), ?_⟩ | refine .inl ⟨by omega, by omega, ?_⟩ | refine .inr ⟨⟨by (first | omega | (simp only [lens, Int.toNat_natCast, bsz, Nat.zero_mul, Nat.zero_add]; omega)), by (first | omega | (simp only [lens, Int.toNat_natCast, bsz, Nat.zero_mul, Nat.zero_add]; omega))⟩, ?_⟩ | refine .inl ⟨⟨by (first | omega | (simp only [lens, Int.toNat_natCast, bsz, Nat.zero_mul, Nat.zero_add]; omega)), by (first | omega | (simp only [lens, Int.toNat_natCast, bsz, Nat.zero_mul, Nat.zero_add]; omega))⟩, ?_⟩ | refine ⟨rfl, ?_⟩ | refine ⟨congrArg (Value.int _) (by omega), ?_⟩); (conv => whnf))
              | (refine And.intro ?_ ?_; rotate_left; (conv => whnf); rotate_right))
            refine .to (k + 1) hlt (by omega) ?_
            conv => whnf
            repeat' (first
              | exact trivial
              | ((first | refine .inl ⟨in64 (by omega) (by omega), ?_⟩ | refine .inl ⟨inU64 (by omega) (by omega), ?_⟩ | refine .inl ⟨inU8 (by omega) (by omega), ?_⟩); (conv => whnf))
              | ((refine ⟨fun hb => ?_, fun hb => ?_⟩) <;> (try simp only [decide_eq_true_eq, decide_eq_false_iff_not, Int.not_lt, Int.not_le, beq_iff_eq, beq_eq_false_iff_ne, bne_iff_ne, bne_eq_false_iff_eq, ne_eq, Decidable.not_not, Bool.not_eq_true', Bool.not_eq_false', Bool.not_eq_true, Bool.not_eq_false, Int.toNat_natCast, Bool.and_eq_true, Bool.or_eq_true, Bool.and_eq_false_iff, Bool.or_eq_false_iff, List.length_nil, List.length_cons] at hb) <;> (first | (exfalso; omega) | contradiction | (conv => whnf)))
              | ((first | refine Draws.of cfg_ok (by kernel_rfl) ?_ | refine ⟨(by kernel_rfl : confB _ _ _ _ _ = true), ?_⟩ | refine ⟨by (first | omega | (simp only [lens, Int.toNat_natCast, bsz, Nat.zero_mul, Nat.zero_add]; omega)), ?_⟩ | refine .inl ⟨by omega, by omega, ?_⟩ | refine .inr ⟨⟨by (first | omega | (simp only [lens, Int.toNat_natCast, bsz, Nat.zero_mul, Nat.zero_add]; omega)), by (first | omega | (simp only [lens, Int.toNat_natCast, bsz, Nat.zero_mul, Nat.zero_add]; omega))⟩, ?_⟩ | refine .inl ⟨⟨by (first | omega | (simp only [lens, Int.toNat_natCast, bsz, Nat.zero_mul, Nat.zero_add]; omega)), by (first | omega | (simp only [lens, Int.toNat_natCast, bsz, Nat.zero_mul, Nat.zero_add]; omega))⟩, ?_⟩ | refine ⟨rfl, ?_⟩ | refine ⟨congrArg (Value.int _) (by omega), ?_⟩); (conv => whnf))
              | (refine And.intro ?_ ?_; rotate_left; (conv => whnf); rotate_right))
            · exact grow_len (t := .heap) (f := heapL) Q hlt rfl
            · exact grow_row (t := .heap) (f := heapL) Q hlt rfl
          · obtain rfl : k = c.heaps.length := by omega
            rw [List.take_length] at hfl ⊢
            have hSl : (Q ++ c.heaps.flatMap heapL).length ≤ 1054 := by rw [List.length_append]; omega
            have hSe : Q.length + (c.heaps.flatMap heapL).length = (Q ++ c.heaps.flatMap heapL).length := by rw [List.length_append]
            rw [hSe]
            generalize hS : Q ++ c.heaps.flatMap heapL = S at *
            clear hSe
            conv => whnf
            repeat' (first
              | exact trivial
              | ((first | refine .inl ⟨in64 (by omega) (by omega), ?_⟩ | refine .inl ⟨inU64 (by omega) (by omega), ?_⟩ | refine .inl ⟨inU8 (by omega) (by omega), ?_⟩); (conv => whnf))
              | ((refine ⟨fun hb => ?_, fun hb => ?_⟩) <;> (try simp only [decide_eq_true_eq, decide_eq_false_iff_not, Int.not_lt, Int.not_le, beq_iff_eq, beq_eq_false_iff_ne, bne_iff_ne, bne_eq_false_iff_eq, ne_eq, Decidable.not_not, Bool.not_eq_true', Bool.not_eq_false', Bool.not_eq_true, Bool.not_eq_false, Int.toNat_natCast, Bool.and_eq_true, Bool.or_eq_true, Bool.and_eq_false_iff, Bool.or_eq_false_iff, List.length_nil, List.length_cons] at hb) <;> (first | (exfalso; omega) | contradiction | (conv => whnf)))
              | ((first | refine Draws.of cfg_ok (by kernel_rfl) ?_ | refine ⟨(by kernel_rfl : confB _ _ _ _ _ = true), ?_⟩ | refine ⟨by (first | omega | (simp only [lens, Int.toNat_natCast, bsz, Nat.zero_mul, Nat.zero_add]; omega)), ?_⟩ | refine .inl ⟨by omega, by omega, ?_⟩ | refine .inr ⟨⟨by (first | omega | (simp only [lens, Int.toNat_natCast, bsz, Nat.zero_mul, Nat.zero_add]; omega)), by (first | omega | (simp only [lens, Int.toNat_natCast, bsz, Nat.zero_mul, Nat.zero_add]; omega))⟩, ?_⟩ | refine .inl ⟨⟨by (first | omega | (simp only [lens, Int.toNat_natCast, bsz, Nat.zero_mul, Nat.zero_add]; omega)), by (first | omega | (simp only [lens, Int.toNat_natCast, bsz, Nat.zero_mul, Nat.zero_add]; omega))⟩, ?_⟩ | refine ⟨rfl, ?_⟩ | refine ⟨congrArg (Value.int _) (by omega), ?_⟩); (conv => whnf))
              | (refine And.intro ?_ ?_; rotate_left; (conv => whnf); rotate_right))
            refine Runs.loopS cfg_ok (σ := Nat) [4, 5, 64, 65, 66] (fun k => [.ptr 8 0, .clo (.func 46) [] [.ptr 8 0], .vec .box c.boxes, i64 c.boxes.length, i64 k]) (fun k => [(8, .box [.own .u8 150003 0 (S.length + ((c.boxes.take k).flatMap boxL).length) none]), (150003, .row .u8 (S ++ (c.boxes.take k).flatMap boxL))])
              (fun k => k ≤ c.boxes.length) (fun k => c.boxes.length - k) 0 (by omega) ?_ ?_
            · conv => whnf
              repeat' (first
                | exact trivial
                | ((first | refine .inl ⟨in64 (by omega) (by omega), ?_⟩ | refine .inl ⟨inU64 (by omega) (by omega), ?_⟩ | refine .inl ⟨inU8 (by omega) (by omega), ?_⟩); (conv => whnf))
                | ((refine ⟨fun hb => ?_, fun hb => ?_⟩) <;> (try simp only [decide_eq_true_eq, decide_eq_false_iff_not, Int.not_lt, Int.not_le, beq_iff_eq, beq_eq_false_iff_ne, bne_iff_ne, bne_eq_false_iff_eq, ne_eq, Decidable.not_not, Bool.not_eq_true', Bool.not_eq_false', Bool.not_eq_true, Bool.not_eq_false, Int.toNat_natCast, Bool.and_eq_true, Bool.or_eq_true, Bool.and_eq_false_iff, Bool.or_eq_false_iff, List.length_nil, List.length_cons] at hb) <;> (first | (exfalso; omega) | contradiction | (conv => whnf)))
                | ((first | refine Draws.of cfg_ok (by kernel_rfl) ?_ | refine ⟨(by kernel_rfl : confB _ _ _ _ _ = true), ?_⟩ | refine ⟨by (first | omega | (simp only [lens, Int.toNat_natCast, bsz, Nat.zero_mul, Nat.zero_add]; omega)), ?_⟩ | refine .inl ⟨by omega, by omega, ?_⟩ | refine .inr ⟨⟨by (first | omega | (simp only [lens, Int.toNat_natCast, bsz, Nat.zero_mul, Nat.zero_add]; omega)), by (first | omega | (simp only [lens, Int.toNat_natCast, bsz, Nat.zero_mul, Nat.zero_add]; omega))⟩, ?_⟩ | refine .inl ⟨⟨by (first | omega | (simp only [lens, Int.toNat_natCast, bsz, Nat.zero_mul, Nat.zero_add]; omega)), by (first | omega | (simp only [lens, Int.toNat_natCast, bsz, Nat.zero_mul, Nat.zero_add]; omega))⟩, ?_⟩ | refine ⟨rfl, ?_⟩ | refine ⟨congrArg (Value.int _) (by omega), ?_⟩); (conv => whnf))
                | (refine And.intro ?_ ?_; rotate_left; (conv => whnf); rotate_right))
              all_goals first | rfl | (rw [List.take_length]; simp; done)
            · intro k hk
              have hfl2 := flatMap_len boxL 120 (c.boxes.take k) (fun a ha => by
                have h6 := (hbx a (List.mem_of_mem_take ha)).1
                have := flatMap_len slotL 20 a.bag (fun s _ => slotL_len s)
                unfold boxL
                omega)
              rw [List.length_take] at hfl2
              by_cases hlt : k < c.boxes.length
              · obtain ⟨h6, hbag⟩ := hbx _ (elt_mem (t := .box) hlt)
                conv => whnf
                repeat' (first
                  | exact trivial
                  | ((first | refine .inl ⟨in64 (by omega) (by omega), ?_⟩ | refine .inl ⟨inU64 (by omega) (by omega), ?_⟩ | refine .inl ⟨inU8 (by omega) (by omega), ?_⟩); (conv => whnf))
                  | ((refine ⟨fun hb => ?_, fun hb => ?_⟩) <;> (try simp only [decide_eq_true_eq, decide_eq_false_iff_not, Int.not_lt, Int.not_le, beq_iff_eq, beq_eq_false_iff_ne, bne_iff_ne, bne_eq_false_iff_eq, ne_eq, Decidable.not_not, Bool.not_eq_true', Bool.not_eq_false', Bool.not_eq_true, Bool.not_eq_false, Int.toNat_natCast, Bool.and_eq_true, Bool.or_eq_true, Bool.and_eq_false_iff, Bool.or_eq_false_iff, List.length_nil, List.length_cons] at hb) <;> (first | (exfalso; omega) | contradiction | (conv => whnf)))
                  | ((first | refine Draws.of cfg_ok (by kernel_rfl) ?_ | refine ⟨(by kernel_rfl : confB _ _ _ _ _ = true), ?_⟩ | refine ⟨by (first | omega | (simp only [lens, Int.toNat_natCast, bsz, Nat.zero_mul, Nat.zero_add]; omega)), ?_⟩ | refine .inl ⟨by omega, by omega, ?_⟩ | refine .inr ⟨⟨by (first | omega | (simp only [lens, Int.toNat_natCast, bsz, Nat.zero_mul, Nat.zero_add]; omega)), by (first | omega | (simp only [lens, Int.toNat_natCast, bsz, Nat.zero_mul, Nat.zero_add]; omega))⟩, ?_⟩ | refine .inl ⟨⟨by (first | omega | (simp only [lens, Int.toNat_natCast, bsz, Nat.zero_mul, Nat.zero_add]; omega)), by (first | omega | (simp only [lens, Int.toNat_natCast, bsz, Nat.zero_mul, Nat.zero_add]; omega))⟩, ?_⟩ | refine ⟨rfl, ?_⟩ | refine ⟨congrArg (Value.int _) (by omega), ?_⟩); (conv => whnf))
                  | (refine And.intro ?_ ?_; rotate_left; (conv => whnf); rotate_right))
                generalize hT : S ++ (c.boxes.take k).flatMap boxL = T at *
                have hTe : S.length + ((c.boxes.take k).flatMap boxL).length = T.length := by rw [← hT, List.length_append]
                rw [hTe]
                have hTl : T.length ≤ 10000 := by omega
                refine Runs.loopS cfg_ok (σ := Nat) [4, 5, 64, 65, 66, 71, 72, 73] (fun j => [.ptr 8 0, .clo (.func 46) [] [.ptr 8 0], .vec .box c.boxes, i64 c.boxes.length, i64 k, .vec .slot (elt .box c.boxes k).bag, i64 (elt .box c.boxes k).bag.length, i64 j]) (fun j => [(8, .box [.own .u8 150003 0 (T.length + (((elt .box c.boxes k).bag.take j).flatMap slotL).length) none]), (150003, .row .u8 (T ++ ((elt .box c.boxes k).bag.take j).flatMap slotL))])
                  (fun j => j ≤ (elt .box c.boxes k).bag.length) (fun j => (elt .box c.boxes k).bag.length - j) 0 (by omega) ?_ ?_
                · conv => whnf
                  repeat' (first
                    | exact trivial
                    | ((first | refine .inl ⟨in64 (by omega) (by omega), ?_⟩ | refine .inl ⟨inU64 (by omega) (by omega), ?_⟩ | refine .inl ⟨inU8 (by omega) (by omega), ?_⟩); (conv => whnf))
                    | ((refine ⟨fun hb => ?_, fun hb => ?_⟩) <;> (try simp only [decide_eq_true_eq, decide_eq_false_iff_not, Int.not_lt, Int.not_le, beq_iff_eq, beq_eq_false_iff_ne, bne_iff_ne, bne_eq_false_iff_eq, ne_eq, Decidable.not_not, Bool.not_eq_true', Bool.not_eq_false', Bool.not_eq_true, Bool.not_eq_false, Int.toNat_natCast, Bool.and_eq_true, Bool.or_eq_true, Bool.and_eq_false_iff, Bool.or_eq_false_iff, List.length_nil, List.length_cons] at hb) <;> (first | (exfalso; omega) | contradiction | (conv => whnf)))
                    | ((first | refine Draws.of cfg_ok (by kernel_rfl) ?_ | refine ⟨(by kernel_rfl : confB _ _ _ _ _ = true), ?_⟩ | refine ⟨by (first | omega | (simp only [lens, Int.toNat_natCast, bsz, Nat.zero_mul, Nat.zero_add]; omega)), ?_⟩ | refine .inl ⟨by omega, by omega, ?_⟩ | refine .inr ⟨⟨by (first | omega | (simp only [lens, Int.toNat_natCast, bsz, Nat.zero_mul, Nat.zero_add]; omega)), by (first | omega | (simp only [lens, Int.toNat_natCast, bsz, Nat.zero_mul, Nat.zero_add]; omega))⟩, ?_⟩ | refine .inl ⟨⟨by (first | omega | (simp only [lens, Int.toNat_natCast, bsz, Nat.zero_mul, Nat.zero_add]; omega)), by (first | omega | (simp only [lens, Int.toNat_natCast, bsz, Nat.zero_mul, Nat.zero_add]; omega))⟩, ?_⟩ | refine ⟨rfl, ?_⟩ | refine ⟨congrArg (Value.int _) (by omega), ?_⟩); (conv => whnf))
                    | (refine And.intro ?_ ?_; rotate_left; (conv => whnf); rotate_right))
                  all_goals first | rfl | (rw [List.take_length]; simp; done)
                · intro j hj
                  have hfl3 := flatMap_len slotL 20 ((elt .box c.boxes k).bag.take j) (fun s _ => slotL_len s)
                  rw [List.length_take] at hfl3
                  by_cases hlj : j < (elt .box c.boxes k).bag.length
                  · obtain ⟨ha1, ha2⟩ := okN_slot (any_false (by simpa only [bagOk, Bool.not_eq_true'] using hbag) (elt_mem (t := .slot) hlj))
                    obtain ⟨hb1, hb2⟩ : 0 ≤ (elt .slot (elt .box c.boxes k).bag j).item ∧ (elt .slot (elt .box c.boxes k).bag j).item ≤ 255 := (hc.boxes _ (elt_mem (t := .box) hlt)).1 _ (elt_mem (t := .slot) hlj)
                    have hi1 : -9223372036854775808 ≤ (elt .slot (elt .box c.boxes k).bag j).item := by omega
                    have hi2 : (elt .slot (elt .box c.boxes k).bag j).item ≤ 9223372036854775807 := by omega
                    have hok : ∀ z ∈ [(elt .slot (elt .box c.boxes k).bag j).item, (elt .slot (elt .box c.boxes k).bag j).n], okN z := by
                      intro z hz
                      simp only [List.mem_cons, List.not_mem_nil, or_false] at hz
                      rcases hz with rfl | rfl <;> (unfold okN; omega)
                    have hput := put_ev (T ++ ((elt .box c.boxes k).bag.take j).flatMap slotL) _ [(elt .slot (elt .box c.boxes k).bag j).item, (elt .slot (elt .box c.boxes k).bag j).n] _ rfl (by rw [List.length_append]) hok (by simp only [List.length_append, List.length_cons, List.length_nil]; omega)
                    conv => whnf
                    repeat' (first
                      | exact trivial
                      | ((first | refine .inl ⟨in64 (by omega) (by omega), ?_⟩ | refine .inl ⟨inU64 (by omega) (by omega), ?_⟩ | refine .inl ⟨inU8 (by omega) (by omega), ?_⟩); (conv => whnf))
                      | ((refine ⟨fun hb => ?_, fun hb => ?_⟩) <;> (try simp only [decide_eq_true_eq, decide_eq_false_iff_not, Int.not_lt, Int.not_le, beq_iff_eq, beq_eq_false_iff_ne, bne_iff_ne, bne_eq_false_iff_eq, ne_eq, Decidable.not_not, Bool.not_eq_true', Bool.not_eq_false', Bool.not_eq_true, Bool.not_eq_false, Int.toNat_natCast, Bool.and_eq_true, Bool.or_eq_true, Bool.and_eq_false_iff, Bool.or_eq_false_iff, List.length_nil, List.length_cons] at hb) <;> (first | (exfalso; omega) | contradiction | (conv => whnf)))
                      | ((first | (refine callEv (hput) [(0, 8), (1, 150003), (3, 167), (390001, 150005)] rfl ?_ ?_ ?_) | (refine callEvD (hput) [(0, 8), (1, 150003), (3, 167), (390001, 150005)] rfl ?_ ?_ ?_)); rotate_left; rotate_left; (conv => whnf); rotate_left; (repeat' (first | exact trivial | (refine ⟨rfl, ?_⟩))); kernel_rfl)
                      | (refine .inl ⟨in64 hi1 hi2, ?_⟩; (conv => whnf))
                      | ((first | refine Draws.of cfg_ok (by kernel_rfl) ?_ | refine ⟨(by kernel_rfl : confB _ _ _ _ _ = true), ?_⟩ | refine ⟨by (first | omega | (simp only [lens, Int.toNat_natCast, bsz, Nat.zero_mul, Nat.zero_add]; omega)), ?_⟩ | refine .inl ⟨by omega, by omega, ?_⟩ | refine .inr ⟨⟨by (first | omega | (simp only [lens, Int.toNat_natCast, bsz, Nat.zero_mul, Nat.zero_add]; omega)), by (first | omega | (simp only [lens, Int.toNat_natCast, bsz, Nat.zero_mul, Nat.zero_add]; omega))⟩, ?_⟩ | refine .inl ⟨⟨by (first | omega | (simp only [lens, Int.toNat_natCast, bsz, Nat.zero_mul, Nat.zero_add]; omega)), by (first | omega | (simp only [lens, Int.toNat_natCast, bsz, Nat.zero_mul, Nat.zero_add]; omega))⟩, ?_⟩ | refine ⟨rfl, ?_⟩ | refine ⟨congrArg (Value.int _) (by omega), ?_⟩); (conv => whnf))
                      | (refine And.intro ?_ ?_; rotate_left; (conv => whnf); rotate_right))
                    refine .to (j + 1) hlj (by omega) ?_
                    conv => whnf
                    repeat' (first
                      | exact trivial
                      | ((first | refine .inl ⟨in64 (by omega) (by omega), ?_⟩ | refine .inl ⟨inU64 (by omega) (by omega), ?_⟩ | refine .inl ⟨inU8 (by omega) (by omega), ?_⟩); (conv => whnf))
                      | ((refine ⟨fun hb => ?_, fun hb => ?_⟩) <;> (try simp only [decide_eq_true_eq, decide_eq_false_iff_not, Int.not_lt, Int.not_le, beq_iff_eq, beq_eq_false_iff_ne, bne_iff_ne, bne_eq_false_iff_eq, ne_eq, Decidable.not_not, Bool.not_eq_true', Bool.not_eq_false', Bool.not_eq_true, Bool.not_eq_false, Int.toNat_natCast, Bool.and_eq_true, Bool.or_eq_true, Bool.and_eq_false_iff, Bool.or_eq_false_iff, List.length_nil, List.length_cons] at hb) <;> (first | (exfalso; omega) | contradiction | (conv => whnf)))
                      | ((first | refine Draws.of cfg_ok (by kernel_rfl) ?_ | refine ⟨(by kernel_rfl : confB _ _ _ _ _ = true), ?_⟩ | refine ⟨by (first | omega | (simp only [lens, Int.toNat_natCast, bsz, Nat.zero_mul, Nat.zero_add]; omega)), ?_⟩ | refine .inl ⟨by omega, by omega, ?_⟩ | refine .inr ⟨⟨by (first | omega | (simp only [lens, Int.toNat_natCast, bsz, Nat.zero_mul, Nat.zero_add]; omega)), by (first | omega | (simp only [lens, Int.toNat_natCast, bsz, Nat.zero_mul, Nat.zero_add]; omega))⟩, ?_⟩ | refine .inl ⟨⟨by (first | omega | (simp only [lens, Int.toNat_natCast, bsz, Nat.zero_mul, Nat.zero_add]; omega)), by (first | omega | (simp only [lens, Int.toNat_natCast, bsz, Nat.zero_mul, Nat.zero_add]; omega))⟩, ?_⟩ | refine ⟨rfl, ?_⟩ | refine ⟨congrArg (Value.int _) (by omega), ?_⟩); (conv => whnf))
                      | (refine And.intro ?_ ?_; rotate_left; (conv => whnf); rotate_right))
                    · exact grow_len (t := .slot) (f := slotL) T hlj rfl
                    · exact grow_row (t := .slot) (f := slotL) T hlj rfl
                  · obtain rfl : j = (elt .box c.boxes k).bag.length := by omega
                    rw [List.take_length]
                    conv => whnf
                    repeat' (first
                      | exact trivial
                      | ((first | refine .inl ⟨in64 (by omega) (by omega), ?_⟩ | refine .inl ⟨inU64 (by omega) (by omega), ?_⟩ | refine .inl ⟨inU8 (by omega) (by omega), ?_⟩); (conv => whnf))
                      | ((refine ⟨fun hb => ?_, fun hb => ?_⟩) <;> (try simp only [decide_eq_true_eq, decide_eq_false_iff_not, Int.not_lt, Int.not_le, beq_iff_eq, beq_eq_false_iff_ne, bne_iff_ne, bne_eq_false_iff_eq, ne_eq, Decidable.not_not, Bool.not_eq_true', Bool.not_eq_false', Bool.not_eq_true, Bool.not_eq_false, Int.toNat_natCast, Bool.and_eq_true, Bool.or_eq_true, Bool.and_eq_false_iff, Bool.or_eq_false_iff, List.length_nil, List.length_cons] at hb) <;> (first | (exfalso; omega) | contradiction | (conv => whnf)))
                      | ((first | refine Draws.of cfg_ok (by kernel_rfl) ?_ | refine ⟨(by kernel_rfl : confB _ _ _ _ _ = true), ?_⟩ | refine ⟨by (first | omega | (simp only [lens, Int.toNat_natCast, bsz, Nat.zero_mul, Nat.zero_add]; omega)), ?_⟩ | refine .inl ⟨by omega, by omega, ?_⟩ | refine .inr ⟨⟨by (first | omega | (simp only [lens, Int.toNat_natCast, bsz, Nat.zero_mul, Nat.zero_add]; omega)), by (first | omega | (simp only [lens, Int.toNat_natCast, bsz, Nat.zero_mul, Nat.zero_add]; omega))⟩, ?_⟩ | refine .inl ⟨⟨by (first | omega | (simp only [lens, Int.toNat_natCast, bsz, Nat.zero_mul, Nat.zero_add]; omega)), by (first | omega | (simp only [lens, Int.toNat_natCast, bsz, Nat.zero_mul, Nat.zero_add]; omega))⟩, ?_⟩ | refine ⟨rfl, ?_⟩ | refine ⟨congrArg (Value.int _) (by omega), ?_⟩); (conv => whnf))
                      | (refine And.intro ?_ ?_; rotate_left; (conv => whnf); rotate_right))
                    refine .to (k + 1) hlt (by omega) ?_
                    conv => whnf
                    repeat' (first
                      | exact trivial
                      | ((first | refine .inl ⟨in64 (by omega) (by omega), ?_⟩ | refine .inl ⟨inU64 (by omega) (by omega), ?_⟩ | refine .inl ⟨inU8 (by omega) (by omega), ?_⟩); (conv => whnf))
                      | ((refine ⟨fun hb => ?_, fun hb => ?_⟩) <;> (try simp only [decide_eq_true_eq, decide_eq_false_iff_not, Int.not_lt, Int.not_le, beq_iff_eq, beq_eq_false_iff_ne, bne_iff_ne, bne_eq_false_iff_eq, ne_eq, Decidable.not_not, Bool.not_eq_true', Bool.not_eq_false', Bool.not_eq_true, Bool.not_eq_false, Int.toNat_natCast, Bool.and_eq_true, Bool.or_eq_true, Bool.and_eq_false_iff, Bool.or_eq_false_iff, List.length_nil, List.length_cons] at hb) <;> (first | (exfalso; omega) | contradiction | (conv => whnf)))
                      | ((first | refine Draws.of cfg_ok (by kernel_rfl) ?_ | refine ⟨(by kernel_rfl : confB _ _ _ _ _ = true), ?_⟩ | refine ⟨by (first | omega | (simp only [lens, Int.toNat_natCast, bsz, Nat.zero_mul, Nat.zero_add]; omega)), ?_⟩ | refine .inl ⟨by omega, by omega, ?_⟩ | refine .inr ⟨⟨by (first | omega | (simp only [lens, Int.toNat_natCast, bsz, Nat.zero_mul, Nat.zero_add]; omega)), by (first | omega | (simp only [lens, Int.toNat_natCast, bsz, Nat.zero_mul, Nat.zero_add]; omega))⟩, ?_⟩ | refine .inl ⟨⟨by (first | omega | (simp only [lens, Int.toNat_natCast, bsz, Nat.zero_mul, Nat.zero_add]; omega)), by (first | omega | (simp only [lens, Int.toNat_natCast, bsz, Nat.zero_mul, Nat.zero_add]; omega))⟩, ?_⟩ | refine ⟨rfl, ?_⟩ | refine ⟨congrArg (Value.int _) (by omega), ?_⟩); (conv => whnf))
                      | (refine And.intro ?_ ?_; rotate_left; (conv => whnf); rotate_right))
                    · rw [← hTe]
                      exact grow_len (t := .box) (f := boxL) S hlt rfl
                    · rw [← hTe, ← hT]
                      exact grow_row (t := .box) (f := boxL) S hlt rfl
              · obtain rfl : k = c.boxes.length := by omega
                rw [List.take_length]
                conv => whnf
                repeat' (first
                  | exact trivial
                  | ((first | refine .inl ⟨in64 (by omega) (by omega), ?_⟩ | refine .inl ⟨inU64 (by omega) (by omega), ?_⟩ | refine .inl ⟨inU8 (by omega) (by omega), ?_⟩); (conv => whnf))
                  | ((refine ⟨fun hb => ?_, fun hb => ?_⟩) <;> (try simp only [decide_eq_true_eq, decide_eq_false_iff_not, Int.not_lt, Int.not_le, beq_iff_eq, beq_eq_false_iff_ne, bne_iff_ne, bne_eq_false_iff_eq, ne_eq, Decidable.not_not, Bool.not_eq_true', Bool.not_eq_false', Bool.not_eq_true, Bool.not_eq_false, Int.toNat_natCast, Bool.and_eq_true, Bool.or_eq_true, Bool.and_eq_false_iff, Bool.or_eq_false_iff, List.length_nil, List.length_cons] at hb) <;> (first | (exfalso; omega) | contradiction | (conv => whnf)))
                  | ((first | refine Draws.of cfg_ok (by kernel_rfl) ?_ | refine ⟨(by kernel_rfl : confB _ _ _ _ _ = true), ?_⟩ | refine ⟨by (first | omega | (simp only [lens, Int.toNat_natCast, bsz, Nat.zero_mul, Nat.zero_add]; omega)), ?_⟩ | refine .inl ⟨by omega, by omega, ?_⟩ | refine .inr ⟨⟨by (first | omega | (simp only [lens, Int.toNat_natCast, bsz, Nat.zero_mul, Nat.zero_add]; omega)), by (first | omega | (simp only [lens, Int.toNat_natCast, bsz, Nat.zero_mul, Nat.zero_add]; omega))⟩, ?_⟩ | refine .inl ⟨⟨by (first | omega | (simp only [lens, Int.toNat_natCast, bsz, Nat.zero_mul, Nat.zero_add]; omega)), by (first | omega | (simp only [lens, Int.toNat_natCast, bsz, Nat.zero_mul, Nat.zero_add]; omega))⟩, ?_⟩ | refine ⟨rfl, ?_⟩ | refine ⟨congrArg (Value.int _) (by omega), ?_⟩); (conv => whnf))
                  | (refine And.intro ?_ ?_; rotate_left; (conv => whnf); rotate_right))
                show List.drop 0 (List.take (S.length + (c.boxes.flatMap boxL).length) (S ++ c.boxes.flatMap boxL)) = bytesC c
                rw [List.drop_zero, ← List.length_append, List.take_length, bytesC, hP0, hP1, hQ, hS]

end Go.Proofs.Ytokdgkdpdepaeaa
