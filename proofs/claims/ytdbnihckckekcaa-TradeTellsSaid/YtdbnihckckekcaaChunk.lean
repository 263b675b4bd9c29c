
/- chunk: what only asks. -/
import Derived.Test.YtdbnihckckekcaaBag
set_option linter.unusedSimpArgs false
set_option linter.unusedVariables false
namespace Go.Proofs.Ytdbnihckckekcaa
open Go Go.RowKit Eng

set_option maxRecDepth 100000 in
set_option maxHeartbeats 4000000 in
theorem inside_api (n : Int) : Api Try.prog 90 [i64 n] (bol (decide (0 ≤ n) && decide (n < 64))) := by
  refine Api.of_fin cfg_ok Try.func90 rfl (nt := 8) rfl rfl ?_
  conv => whnf
  repeat' (first
    | exact trivial
    | ((first | refine .inl ⟨in64 (by omega) (by omega), ?_⟩ | refine .inl ⟨inU64 (by omega) (by omega), ?_⟩ | refine .inl ⟨inU8 (by omega) (by omega), ?_⟩); (conv => whnf))
    | ((refine ⟨fun hb => ?_, fun hb => ?_⟩) <;> (try simp only [decide_eq_true_eq, decide_eq_false_iff_not, Int.not_lt, Int.not_le, beq_iff_eq, beq_eq_false_iff_ne, bne_iff_ne, bne_eq_false_iff_eq, ne_eq, Decidable.not_not, Bool.not_eq_true', Bool.not_eq_false', Bool.not_eq_true, Bool.not_eq_false, Int.toNat_natCast, Bool.and_eq_true, Bool.or_eq_true, Bool.and_eq_false_iff, Bool.or_eq_false_iff, List.length_nil, List.length_cons] at hb) <;> (first | (exfalso; omega) | contradiction | (conv => whnf)))
    | ((first | refine Draws.of cfg_ok (by kernel_rfl) ?_ | refine ⟨(by kernel_rfl : confB _ _ _ _ _ = true), ?_⟩ | refine ⟨by (first | omega | (simp only [lens, Int.toNat_natCast, bsz, Nat.zero_mul, Nat.zero_add]; omega)), ?_⟩ | refine .inl ⟨by omega, by omega, ?_⟩ | refine .inr ⟨⟨by (first | omega | (simp only [lens, Int.toNat_natCast, bsz, Nat.zero_mul, Nat.zero_add]; omega)), by (first | omega | (simp only [lens, Int.toNat_natCast, bsz, Nat.zero_mul, Nat.zero_add]; omega))⟩, ?_⟩ | refine .inl ⟨⟨by (first | omega | (simp only [lens, Int.toNat_natCast, bsz, Nat.zero_mul, Nat.zero_add]; omega)), by (first | omega | (simp only [lens, Int.toNat_natCast, bsz, Nat.zero_mul, Nat.zero_add]; omega))⟩, ?_⟩ | refine ⟨rfl, ?_⟩ | refine ⟨congrArg (Value.int _) (by omega), ?_⟩); (conv => whnf))
    | (refine And.intro ?_ ?_; rotate_left; (conv => whnf); rotate_right))
  all_goals (refine congrArg Value.bool ?_; rw [Bool.eq_iff_iff]; simp only [badSlot, Bool.and_eq_true, Bool.or_eq_true, Bool.not_eq_true', Bool.and_eq_false_iff, Bool.or_eq_false_iff, decide_eq_true_eq, decide_eq_false_iff_not, beq_iff_eq, beq_eq_false_iff_ne, bne_iff_ne, ne_eq, Bool.false_eq_true, Int.toNat_natCast, eq_self, iff_true, true_iff, iff_false, false_iff, Bool.true_eq_false, not_and, Decidable.not_not, not_true_eq_false, not_false_eq_true]; (first | done | omega | (simp_all; done) | (simp_all; omega)))

def someB (s : Slot) : Bool := decide (1 ≤ s.n) && decide (s.n ≤ stackN s.item)
set_option maxRecDepth 100000 in
set_option maxHeartbeats 4000000 in
theorem some_api (s : Slot) (h : okSlot s) : Api Try.prog 91 [.agg [.lit (.int .u8 s.item), .lit (.int .i64 s.n)]] (bol (someB s)) := by
  refine Api.of_fin cfg_ok Try.func91 rfl (nt := 13) rfl rfl ?_
  conv => whnf
  repeat' (first
    | exact trivial
    | ((first | refine .inl ⟨in64 (by omega) (by omega), ?_⟩ | refine .inl ⟨inU64 (by omega) (by omega), ?_⟩ | refine .inl ⟨inU8 (by omega) (by omega), ?_⟩); (conv => whnf))
    | ((refine ⟨fun hb => ?_, fun hb => ?_⟩) <;> (try simp only [decide_eq_true_eq, decide_eq_false_iff_not, Int.not_lt, Int.not_le, beq_iff_eq, beq_eq_false_iff_ne, bne_iff_ne, bne_eq_false_iff_eq, ne_eq, Decidable.not_not, Bool.not_eq_true', Bool.not_eq_false', Bool.not_eq_true, Bool.not_eq_false, Int.toNat_natCast, Bool.and_eq_true, Bool.or_eq_true, Bool.and_eq_false_iff, Bool.or_eq_false_iff, List.length_nil, List.length_cons] at hb) <;> (first | (exfalso; omega) | contradiction | (conv => whnf)))
    | ((first | (refine isE 42 ?_; refine callApi (stack_api _ h.1 h.2) rfl rfl ?_) | (refine isD 42 ?_; refine callApiD (stack_api _ h.1 h.2) rfl rfl ?_) | refine Draws.of cfg_ok (by kernel_rfl) ?_ | refine ⟨(by kernel_rfl : confB _ _ _ _ _ = true), ?_⟩ | refine ⟨by (first | omega | (simp only [lens, Int.toNat_natCast, bsz, Nat.zero_mul, Nat.zero_add]; omega)), ?_⟩ | refine .inl ⟨by omega, by omega, ?_⟩ | refine .inr ⟨⟨by (first | omega | (simp only [lens, Int.toNat_natCast, bsz, Nat.zero_mul, Nat.zero_add]; omega)), by (first | omega | (simp only [lens, Int.toNat_natCast, bsz, Nat.zero_mul, Nat.zero_add]; omega))⟩, ?_⟩ | refine .inl ⟨⟨by (first | omega | (simp only [lens, Int.toNat_natCast, bsz, Nat.zero_mul, Nat.zero_add]; omega)), by (first | omega | (simp only [lens, Int.toNat_natCast, bsz, Nat.zero_mul, Nat.zero_add]; omega))⟩, ?_⟩ | refine ⟨rfl, ?_⟩ | refine ⟨congrArg (Value.int _) (by omega), ?_⟩); (conv => whnf))
    | (refine And.intro ?_ ?_; rotate_left; (conv => whnf); rotate_right))
  all_goals (refine congrArg Value.bool ?_; rw [Bool.eq_iff_iff]; simp only [someB, Bool.and_eq_true, Bool.or_eq_true, Bool.not_eq_true', Bool.and_eq_false_iff, Bool.or_eq_false_iff, decide_eq_true_eq, decide_eq_false_iff_not, beq_iff_eq, beq_eq_false_iff_ne, bne_iff_ne, ne_eq, Bool.false_eq_true, Int.toNat_natCast, eq_self, iff_true, true_iff, iff_false, false_iff, Bool.true_eq_false, not_and, Decidable.not_not, not_true_eq_false, not_false_eq_true]; (first | done | omega | (simp_all; done) | (simp_all; omega)))

def okHeap (h : Heap) : Prop := okSlot h.slot
def badHeap (h : Heap) : Bool := !(decide (0 ≤ h.cell) && decide (h.cell < 64)) || !someB h.slot
set_option maxRecDepth 100000 in
set_option maxHeartbeats 4000000 in
theorem cright1_api (h : Heap) (hk : okHeap h) : Api Try.prog 89 [.agg [.lit (.int .i64 h.cell), .lit (.int .u8 h.slot.item), .lit (.int .i64 h.slot.n)]] (bol (badHeap h)) := by
  refine Api.of_fin cfg_ok Try.func89 rfl (nt := 12) rfl rfl ?_
  conv => whnf
  repeat' (first
    | exact trivial
    | ((first | refine .inl ⟨in64 (by omega) (by omega), ?_⟩ | refine .inl ⟨inU64 (by omega) (by omega), ?_⟩ | refine .inl ⟨inU8 (by omega) (by omega), ?_⟩); (conv => whnf))
    | ((refine ⟨fun hb => ?_, fun hb => ?_⟩) <;> (try simp only [decide_eq_true_eq, decide_eq_false_iff_not, Int.not_lt, Int.not_le, beq_iff_eq, beq_eq_false_iff_ne, bne_iff_ne, bne_eq_false_iff_eq, ne_eq, Decidable.not_not, Bool.not_eq_true', Bool.not_eq_false', Bool.not_eq_true, Bool.not_eq_false, Int.toNat_natCast, Bool.and_eq_true, Bool.or_eq_true, Bool.and_eq_false_iff, Bool.or_eq_false_iff, List.length_nil, List.length_cons] at hb) <;> (first | (exfalso; omega) | contradiction | (conv => whnf)))
    | ((first | (refine isE 90 ?_; refine callApi (inside_api _) rfl rfl ?_) | (refine isD 90 ?_; refine callApiD (inside_api _) rfl rfl ?_) | (refine isE 91 ?_; refine callApi (some_api _ hk) rfl rfl ?_) | (refine isD 91 ?_; refine callApiD (some_api _ hk) rfl rfl ?_) | refine Draws.of cfg_ok (by kernel_rfl) ?_ | refine ⟨(by kernel_rfl : confB _ _ _ _ _ = true), ?_⟩ | refine ⟨by (first | omega | (simp only [lens, Int.toNat_natCast, bsz, Nat.zero_mul, Nat.zero_add]; omega)), ?_⟩ | refine .inl ⟨by omega, by omega, ?_⟩ | refine .inr ⟨⟨by (first | omega | (simp only [lens, Int.toNat_natCast, bsz, Nat.zero_mul, Nat.zero_add]; omega)), by (first | omega | (simp only [lens, Int.toNat_natCast, bsz, Nat.zero_mul, Nat.zero_add]; omega))⟩, ?_⟩ | refine .inl ⟨⟨by (first | omega | (simp only [lens, Int.toNat_natCast, bsz, Nat.zero_mul, Nat.zero_add]; omega)), by (first | omega | (simp only [lens, Int.toNat_natCast, bsz, Nat.zero_mul, Nat.zero_add]; omega))⟩, ?_⟩ | refine ⟨rfl, ?_⟩ | refine ⟨congrArg (Value.int _) (by omega), ?_⟩); (conv => whnf))
    | (refine And.intro ?_ ?_; rotate_left; (conv => whnf); rotate_right))
  all_goals (refine congrArg Value.bool ?_; rw [Bool.eq_iff_iff]; simp only [badHeap, Bool.and_eq_true, Bool.or_eq_true, Bool.not_eq_true', Bool.and_eq_false_iff, Bool.or_eq_false_iff, decide_eq_true_eq, decide_eq_false_iff_not, beq_iff_eq, beq_eq_false_iff_ne, bne_iff_ne, ne_eq, Bool.false_eq_true, Int.toNat_natCast, eq_self, iff_true, true_iff, iff_false, false_iff, Bool.true_eq_false, not_and, Decidable.not_not, not_true_eq_false, not_false_eq_true]; (first | done | omega | (simp_all; done) | (simp_all; omega)))

set_option maxRecDepth 100000 in
set_option maxHeartbeats 4000000 in
theorem idx_heap (l : List (El .heap)) (hl : l.length ≤ big) (hw : ∀ s ∈ l, okHeap s) : Api Try.prog 104 [.vec .heap l, .lit (.func (.func 89) #[] #[])] (i64 (idxGo badHeap l 0)) := by
  unfold big at hl
  refine Api.of_fin cfg_ok Try.func104 rfl (nt := 17) rfl rfl ?_
  conv => whnf
  refine Runs.loopS cfg_ok (σ := Nat) [0, 1, 7, 8] (fun k => [.vec .heap l, .lit (.func (.func 89) #[] #[]), i64 l.length, i64 k]) (fun _ => []) (fun k => k ≤ l.length ∧ idxGo badHeap (l.drop k) k = idxGo badHeap l 0) (fun k => l.length - k) 0 ⟨by omega, rfl⟩ ?_ ?_
  · conv => whnf
    repeat' (first
      | exact trivial
      | ((first | refine .inl ⟨in64 (by omega) (by omega), ?_⟩ | refine .inl ⟨inU64 (by omega) (by omega), ?_⟩ | refine .inl ⟨inU8 (by omega) (by omega), ?_⟩); (conv => whnf))
      | ((refine ⟨fun hb => ?_, fun hb => ?_⟩) <;> (try simp only [decide_eq_true_eq, decide_eq_false_iff_not, Int.not_lt, Int.not_le, beq_iff_eq, beq_eq_false_iff_ne, bne_iff_ne, bne_eq_false_iff_eq, ne_eq, Decidable.not_not, Bool.not_eq_true', Bool.not_eq_false', Bool.not_eq_true, Bool.not_eq_false, Int.toNat_natCast, Bool.and_eq_true, Bool.or_eq_true, Bool.and_eq_false_iff, Bool.or_eq_false_iff, List.length_nil, List.length_cons] at hb) <;> (first | (exfalso; omega) | contradiction | (conv => whnf)))
      | ((first | refine Draws.of cfg_ok (by kernel_rfl) ?_ | refine ⟨(by kernel_rfl : confB _ _ _ _ _ = true), ?_⟩ | refine ⟨by (first | omega | (simp only [lens, Int.toNat_natCast, bsz, Nat.zero_mul, Nat.zero_add]; omega)), ?_⟩ | refine .inl ⟨by omega, by omega, ?_⟩ | refine .inr ⟨⟨by (first | omega | (simp only [lens, Int.toNat_natCast, bsz, Nat.zero_mul, Nat.zero_add]; omega)), by (first | omega | (simp only [lens, Int.toNat_natCast, bsz, Nat.zero_mul, Nat.zero_add]; omega))⟩, ?_⟩ | refine .inl ⟨⟨by (first | omega | (simp only [lens, Int.toNat_natCast, bsz, Nat.zero_mul, Nat.zero_add]; omega)), by (first | omega | (simp only [lens, Int.toNat_natCast, bsz, Nat.zero_mul, Nat.zero_add]; omega))⟩, ?_⟩ | refine ⟨rfl, ?_⟩ | refine ⟨congrArg (Value.int _) (by omega), ?_⟩); (conv => whnf))
      | (refine And.intro ?_ ?_; rotate_left; (conv => whnf); rotate_right))
  · intro k ⟨hk, he⟩
    by_cases hlt : k < l.length
    · rw [drop_elt hlt] at he
      simp only [idxGo] at he
      conv => whnf
      repeat' (first
        | exact trivial
        | ((first | refine .inl ⟨in64 (by omega) (by omega), ?_⟩ | refine .inl ⟨inU64 (by omega) (by omega), ?_⟩ | refine .inl ⟨inU8 (by omega) (by omega), ?_⟩); (conv => whnf))
        | ((refine ⟨fun hb => ?_, fun hb => ?_⟩) <;> (try simp only [decide_eq_true_eq, decide_eq_false_iff_not, Int.not_lt, Int.not_le, beq_iff_eq, beq_eq_false_iff_ne, bne_iff_ne, bne_eq_false_iff_eq, ne_eq, Decidable.not_not, Bool.not_eq_true', Bool.not_eq_false', Bool.not_eq_true, Bool.not_eq_false, Int.toNat_natCast, Bool.and_eq_true, Bool.or_eq_true, Bool.and_eq_false_iff, Bool.or_eq_false_iff, List.length_nil, List.length_cons] at hb) <;> (first | (exfalso; omega) | contradiction | (conv => whnf)))
        | ((first | (refine isE 89 ?_; refine callApi (cright1_api _ (hw _ (elt_mem' (by omega) (by omega)))) rfl rfl ?_) | (refine isD 89 ?_; refine callApiD (cright1_api _ (hw _ (elt_mem' (by omega) (by omega)))) rfl rfl ?_) | refine Draws.of cfg_ok (by kernel_rfl) ?_ | refine ⟨(by kernel_rfl : confB _ _ _ _ _ = true), ?_⟩ | refine ⟨by (first | omega | (simp only [lens, Int.toNat_natCast, bsz, Nat.zero_mul, Nat.zero_add]; omega)), ?_⟩ | refine .inl ⟨by omega, by omega, ?_⟩ | refine .inr ⟨⟨by (first | omega | (simp only [lens, Int.toNat_natCast, bsz, Nat.zero_mul, Nat.zero_add]; omega)), by (first | omega | (simp only [lens, Int.toNat_natCast, bsz, Nat.zero_mul, Nat.zero_add]; omega))⟩, ?_⟩ | refine .inl ⟨⟨by (first | omega | (simp only [lens, Int.toNat_natCast, bsz, Nat.zero_mul, Nat.zero_add]; omega)), by (first | omega | (simp only [lens, Int.toNat_natCast, bsz, Nat.zero_mul, Nat.zero_add]; omega))⟩, ?_⟩ | refine ⟨rfl, ?_⟩ | refine ⟨congrArg (Value.int _) (by omega), ?_⟩); (conv => whnf))
        | (refine And.intro ?_ ?_; rotate_left; (conv => whnf); rotate_right))
      · simp only [badHeap, Bool.and_eq_true, Bool.or_eq_true, Bool.not_eq_true', Bool.and_eq_false_iff, Bool.or_eq_false_iff, decide_eq_true_eq, decide_eq_false_iff_not] at hb he
        rw [← he, if_pos hb]
      · simp only [badHeap, Bool.and_eq_true, Bool.or_eq_true, Bool.not_eq_true', Bool.and_eq_false_iff, Bool.or_eq_false_iff, decide_eq_true_eq, decide_eq_false_iff_not] at hb
        refine .to (k + 1) ⟨hlt, ?_⟩ (by omega) ?_
        · rw [← he, if_neg (by simp only [badHeap, Bool.and_eq_true, Bool.or_eq_true, Bool.not_eq_true', Bool.and_eq_false_iff, Bool.or_eq_false_iff, decide_eq_true_eq, decide_eq_false_iff_not]; first | omega | (simp [hb]; done) | (simp_all; done))]
        · conv => whnf
          repeat' (first
            | exact trivial
            | ((first | refine .inl ⟨in64 (by omega) (by omega), ?_⟩ | refine .inl ⟨inU64 (by omega) (by omega), ?_⟩ | refine .inl ⟨inU8 (by omega) (by omega), ?_⟩); (conv => whnf))
            | ((refine ⟨fun hb => ?_, fun hb => ?_⟩) <;> (try simp only [decide_eq_true_eq, decide_eq_false_iff_not, Int.not_lt, Int.not_le, beq_iff_eq, beq_eq_false_iff_ne, bne_iff_ne, bne_eq_false_iff_eq, ne_eq, Decidable.not_not, Bool.not_eq_true', Bool.not_eq_false', Bool.not_eq_true, Bool.not_eq_false, Int.toNat_natCast, Bool.and_eq_true, Bool.or_eq_true, Bool.and_eq_false_iff, Bool.or_eq_false_iff, List.length_nil, List.length_cons] at hb) <;> (first | (exfalso; omega) | contradiction | (conv => whnf)))
            | ((first | refine Draws.of cfg_ok (by kernel_rfl) ?_ | refine ⟨(by kernel_rfl : confB _ _ _ _ _ = true), ?_⟩ | refine ⟨by (first | omega | (simp only [lens, Int.toNat_natCast, bsz, Nat.zero_mul, Nat.zero_add]; omega)), ?_⟩ | refine .inl ⟨by omega, by omega, ?_⟩ | refine .inr ⟨⟨by (first | omega | (simp only [lens, Int.toNat_natCast, bsz, Nat.zero_mul, Nat.zero_add]; omega)), by (first | omega | (simp only [lens, Int.toNat_natCast, bsz, Nat.zero_mul, Nat.zero_add]; omega))⟩, ?_⟩ | refine .inl ⟨⟨by (first | omega | (simp only [lens, Int.toNat_natCast, bsz, Nat.zero_mul, Nat.zero_add]; omega)), by (first | omega | (simp only [lens, Int.toNat_natCast, bsz, Nat.zero_mul, Nat.zero_add]; omega))⟩, ?_⟩ | refine ⟨rfl, ?_⟩ | refine ⟨congrArg (Value.int _) (by omega), ?_⟩); (conv => whnf))
            | (refine And.intro ?_ ?_; rotate_left; (conv => whnf); rotate_right))
    · conv => whnf
      repeat' (first
        | exact trivial
        | ((first | refine .inl ⟨in64 (by omega) (by omega), ?_⟩ | refine .inl ⟨inU64 (by omega) (by omega), ?_⟩ | refine .inl ⟨inU8 (by omega) (by omega), ?_⟩); (conv => whnf))
        | ((refine ⟨fun hb => ?_, fun hb => ?_⟩) <;> (try simp only [decide_eq_true_eq, decide_eq_false_iff_not, Int.not_lt, Int.not_le, beq_iff_eq, beq_eq_false_iff_ne, bne_iff_ne, bne_eq_false_iff_eq, ne_eq, Decidable.not_not, Bool.not_eq_true', Bool.not_eq_false', Bool.not_eq_true, Bool.not_eq_false, Int.toNat_natCast, Bool.and_eq_true, Bool.or_eq_true, Bool.and_eq_false_iff, Bool.or_eq_false_iff, List.length_nil, List.length_cons] at hb) <;> (first | (exfalso; omega) | contradiction | (conv => whnf)))
        | ((first | refine Draws.of cfg_ok (by kernel_rfl) ?_ | refine ⟨(by kernel_rfl : confB _ _ _ _ _ = true), ?_⟩ | refine ⟨by (first | omega | (simp only [lens, Int.toNat_natCast, bsz, Nat.zero_mul, Nat.zero_add]; omega)), ?_⟩ | refine .inl ⟨by omega, by omega, ?_⟩ | refine .inr ⟨⟨by (first | omega | (simp only [lens, Int.toNat_natCast, bsz, Nat.zero_mul, Nat.zero_add]; omega)), by (first | omega | (simp only [lens, Int.toNat_natCast, bsz, Nat.zero_mul, Nat.zero_add]; omega))⟩, ?_⟩ | refine .inl ⟨⟨by (first | omega | (simp only [lens, Int.toNat_natCast, bsz, Nat.zero_mul, Nat.zero_add]; omega)), by (first | omega | (simp only [lens, Int.toNat_natCast, bsz, Nat.zero_mul, Nat.zero_add]; omega))⟩, ?_⟩ | refine ⟨rfl, ?_⟩ | refine ⟨congrArg (Value.int _) (by omega), ?_⟩); (conv => whnf))
        | (refine And.intro ?_ ?_; rotate_left; (conv => whnf); rotate_right))
      have : k = l.length := by omega
      subst this
      simp only [List.drop_length, idxGo] at he
      rw [← he]

set_option maxRecDepth 100000 in
set_option maxHeartbeats 4000000 in
theorem has_heap (l : List (El .heap)) (hl : l.length ≤ big) (hw : ∀ s ∈ l, okHeap s) : Api Try.prog 88 [.vec .heap l, .lit (.func (.func 89) #[] #[])] (bol (l.any badHeap)) := by
  refine Api.of_fin cfg_ok Try.func88 rfl (nt := 7) rfl rfl ?_
  conv => whnf
  repeat' (first
    | exact trivial
    | ((first | refine .inl ⟨in64 (by omega) (by omega), ?_⟩ | refine .inl ⟨inU64 (by omega) (by omega), ?_⟩ | refine .inl ⟨inU8 (by omega) (by omega), ?_⟩); (conv => whnf))
    | ((refine ⟨fun hb => ?_, fun hb => ?_⟩) <;> (try simp only [decide_eq_true_eq, decide_eq_false_iff_not, Int.not_lt, Int.not_le, beq_iff_eq, beq_eq_false_iff_ne, bne_iff_ne, bne_eq_false_iff_eq, ne_eq, Decidable.not_not, Bool.not_eq_true', Bool.not_eq_false', Bool.not_eq_true, Bool.not_eq_false, Int.toNat_natCast, Bool.and_eq_true, Bool.or_eq_true, Bool.and_eq_false_iff, Bool.or_eq_false_iff, List.length_nil, List.length_cons] at hb) <;> (first | (exfalso; omega) | contradiction | (conv => whnf)))
    | ((first | (refine isE 104 ?_; refine callApi (idx_heap l hl hw) rfl rfl ?_) | (refine isD 104 ?_; refine callApiD (idx_heap l hl hw) rfl rfl ?_) | refine Draws.of cfg_ok (by kernel_rfl) ?_ | refine ⟨(by kernel_rfl : confB _ _ _ _ _ = true), ?_⟩ | refine ⟨by (first | omega | (simp only [lens, Int.toNat_natCast, bsz, Nat.zero_mul, Nat.zero_add]; omega)), ?_⟩ | refine .inl ⟨by omega, by omega, ?_⟩ | refine .inr ⟨⟨by (first | omega | (simp only [lens, Int.toNat_natCast, bsz, Nat.zero_mul, Nat.zero_add]; omega)), by (first | omega | (simp only [lens, Int.toNat_natCast, bsz, Nat.zero_mul, Nat.zero_add]; omega))⟩, ?_⟩ | refine .inl ⟨⟨by (first | omega | (simp only [lens, Int.toNat_natCast, bsz, Nat.zero_mul, Nat.zero_add]; omega)), by (first | omega | (simp only [lens, Int.toNat_natCast, bsz, Nat.zero_mul, Nat.zero_add]; omega))⟩, ?_⟩ | refine ⟨rfl, ?_⟩ | refine ⟨congrArg (Value.int _) (by omega), ?_⟩); (conv => whnf))
    | (refine And.intro ?_ ?_; rotate_left; (conv => whnf); rotate_right))
  rw [idxGo_any]


end Go.Proofs.Ytdbnihckckekcaa
