
/- Worlds: copied, seek, Set. -/
import Derived.Test.YtdbnihckckekcaaWorld
import Derived.Test.YtdbnihckckekcaaDelInsP
set_option linter.unusedSimpArgs false
set_option linter.unusedVariables false
namespace Go.Proofs.Ytdbnihckckekcaa
open Go Go.RowKit Eng

set_option maxRecDepth 100000 in
set_option maxHeartbeats 4000000 in
theorem wown_api (c : Chunk) (hc : FitC c) : Api Try.prog 77 [chunkV c] (chunkV c) := by
  have h1 := hc.cells
  have h2 := hc.heaps
  have h3 := hc.boxes
  refine Api.of_fin cfg_ok Try.func77 rfl (nt := 35) rfl rfl ?_
  conv => whnf
  repeat' (first
    | exact trivial
    | ((first | refine .inl ⟨in64 (by omega) (by omega), ?_⟩ | refine .inl ⟨inU64 (by omega) (by omega), ?_⟩ | refine .inl ⟨inU8 (by omega) (by omega), ?_⟩); (conv => whnf))
    | ((refine ⟨fun hb => ?_, fun hb => ?_⟩) <;> (try simp only [decide_eq_true_eq, decide_eq_false_iff_not, Int.not_lt, Int.not_le, beq_iff_eq, beq_eq_false_iff_ne, bne_iff_ne, bne_eq_false_iff_eq, ne_eq, Decidable.not_not, Bool.not_eq_true', Bool.not_eq_false', Bool.not_eq_true, Bool.not_eq_false, Int.toNat_natCast, Bool.and_eq_true, Bool.or_eq_true, Bool.and_eq_false_iff, Bool.or_eq_false_iff, List.length_nil, List.length_cons] at hb) <;> (first | (exfalso; omega) | contradiction | (conv => whnf)))
    | ((first | (refine isE 95 ?_; refine callEv (clone_items _ (by omega)) [(390001, 150001)] rfl ?_ ?_ ?_) | (refine isD 95 ?_; refine callEvD (clone_items _ (by omega)) [(390001, 150001)] rfl ?_ ?_ ?_)); rotate_left; rotate_left; (conv => whnf); rotate_left; (repeat' (first | exact trivial | (refine ⟨rfl, ?_⟩))); kernel_rfl)
    | ((first | (refine isE 96 ?_; refine callEv (clone_heaps _ (by omega)) [(390001, 150003)] rfl ?_ ?_ ?_) | (refine isD 96 ?_; refine callEvD (clone_heaps _ (by omega)) [(390001, 150003)] rfl ?_ ?_ ?_)); rotate_left; rotate_left; (conv => whnf); rotate_left; (repeat' (first | exact trivial | (refine ⟨rfl, ?_⟩))); kernel_rfl)
    | ((first | (refine isE 97 ?_; refine callEv (clone_boxes _ (by omega)) [(390001, 150005)] rfl ?_ ?_ ?_) | (refine isD 97 ?_; refine callEvD (clone_boxes _ (by omega)) [(390001, 150005)] rfl ?_ ?_ ?_)); rotate_left; rotate_left; (conv => whnf); rotate_left; (repeat' (first | exact trivial | (refine ⟨rfl, ?_⟩))); kernel_rfl)
    | ((first | refine Draws.of cfg_ok (by kernel_rfl) ?_ | refine ⟨(by kernel_rfl : confB _ _ _ _ _ = true), ?_⟩ | refine ⟨by (first | omega | (simp only [lens, Int.toNat_natCast, bsz, Nat.zero_mul, Nat.zero_add]; omega)), ?_⟩ | refine .inl ⟨by omega, by omega, ?_⟩ | refine .inr ⟨⟨by (first | omega | (simp only [lens, Int.toNat_natCast, bsz, Nat.zero_mul, Nat.zero_add]; omega)), by (first | omega | (simp only [lens, Int.toNat_natCast, bsz, Nat.zero_mul, Nat.zero_add]; omega))⟩, ?_⟩ | refine .inl ⟨⟨by (first | omega | (simp only [lens, Int.toNat_natCast, bsz, Nat.zero_mul, Nat.zero_add]; omega)), by (first | omega | (simp only [lens, Int.toNat_natCast, bsz, Nat.zero_mul, Nat.zero_add]; omega))⟩, ?_⟩ | refine ⟨rfl, ?_⟩ | refine ⟨congrArg (Value.int _) (by omega), ?_⟩); (conv => whnf))
    | (refine And.intro ?_ ?_; rotate_left; (conv => whnf); rotate_right))
  refine Runs.loopS cfg_ok (σ := Nat) [1, 2, 18, 19] (fun k => [.ptr 2 0, .ptr 4 0, i64 c.boxes.length, i64 k]) (fun _ => (2, .box (chunkO c 150001 150003 150005)) :: (4, .box (chunkC ⟨0, 0, [], [], []⟩)) :: chunkR c 150001 150003 150005) (fun k => k ≤ c.boxes.length) (fun k => c.boxes.length - k) 0 (by omega) ?_ ?_
  · conv => whnf
    repeat' (first
      | exact trivial
      | ((first | refine .inl ⟨in64 (by omega) (by omega), ?_⟩ | refine .inl ⟨inU64 (by omega) (by omega), ?_⟩ | refine .inl ⟨inU8 (by omega) (by omega), ?_⟩); (conv => whnf))
      | ((refine ⟨fun hb => ?_, fun hb => ?_⟩) <;> (try simp only [decide_eq_true_eq, decide_eq_false_iff_not, Int.not_lt, Int.not_le, beq_iff_eq, beq_eq_false_iff_ne, bne_iff_ne, bne_eq_false_iff_eq, ne_eq, Decidable.not_not, Bool.not_eq_true', Bool.not_eq_false', Bool.not_eq_true, Bool.not_eq_false, Int.toNat_natCast, Bool.and_eq_true, Bool.or_eq_true, Bool.and_eq_false_iff, Bool.or_eq_false_iff, List.length_nil, List.length_cons] at hb) <;> (first | (exfalso; omega) | contradiction | (conv => whnf)))
      | ((first | refine Draws.of cfg_ok (by kernel_rfl) ?_ | refine ⟨(by kernel_rfl : confB _ _ _ _ _ = true), ?_⟩ | refine ⟨by (first | omega | (simp only [lens, Int.toNat_natCast, bsz, Nat.zero_mul, Nat.zero_add]; omega)), ?_⟩ | refine .inl ⟨by omega, by omega, ?_⟩ | refine .inr ⟨⟨by (first | omega | (simp only [lens, Int.toNat_natCast, bsz, Nat.zero_mul, Nat.zero_add]; omega)), by (first | omega | (simp only [lens, Int.toNat_natCast, bsz, Nat.zero_mul, Nat.zero_add]; omega))⟩, ?_⟩ | refine .inl ⟨⟨by (first | omega | (simp only [lens, Int.toNat_natCast, bsz, Nat.zero_mul, Nat.zero_add]; omega)), by (first | omega | (simp only [lens, Int.toNat_natCast, bsz, Nat.zero_mul, Nat.zero_add]; omega))⟩, ?_⟩ | refine ⟨rfl, ?_⟩ | refine ⟨congrArg (Value.int _) (by omega), ?_⟩); (conv => whnf))
      | (refine And.intro ?_ ?_; rotate_left; (conv => whnf); rotate_right))
    all_goals simp
  · intro k hk
    by_cases hlt : k < c.boxes.length
    · have hbk := hc.bags _ (elt_mem (t := .box) hlt)
      conv => whnf
      repeat' (first
        | exact trivial
        | ((first | refine .inl ⟨in64 (by omega) (by omega), ?_⟩ | refine .inl ⟨inU64 (by omega) (by omega), ?_⟩ | refine .inl ⟨inU8 (by omega) (by omega), ?_⟩); (conv => whnf))
        | ((refine ⟨fun hb => ?_, fun hb => ?_⟩) <;> (try simp only [decide_eq_true_eq, decide_eq_false_iff_not, Int.not_lt, Int.not_le, beq_iff_eq, beq_eq_false_iff_ne, bne_iff_ne, bne_eq_false_iff_eq, ne_eq, Decidable.not_not, Bool.not_eq_true', Bool.not_eq_false', Bool.not_eq_true, Bool.not_eq_false, Int.toNat_natCast, Bool.and_eq_true, Bool.or_eq_true, Bool.and_eq_false_iff, Bool.or_eq_false_iff, List.length_nil, List.length_cons] at hb) <;> (first | (exfalso; omega) | contradiction | (conv => whnf)))
        | ((first | (refine isE 38 ?_; refine callApi (cloneV_slots (elt .box c.boxes k).bag (by omega)) rfl rfl ?_) | (refine isD 38 ?_; refine callApiD (cloneV_slots (elt .box c.boxes k).bag (by omega)) rfl rfl ?_) | refine Draws.of cfg_ok (by kernel_rfl) ?_ | refine ⟨(by kernel_rfl : confB _ _ _ _ _ = true), ?_⟩ | refine ⟨by (first | omega | (simp only [lens, Int.toNat_natCast, bsz, Nat.zero_mul, Nat.zero_add]; omega)), ?_⟩ | refine .inl ⟨by omega, by omega, ?_⟩ | refine .inr ⟨⟨by (first | omega | (simp only [lens, Int.toNat_natCast, bsz, Nat.zero_mul, Nat.zero_add]; omega)), by (first | omega | (simp only [lens, Int.toNat_natCast, bsz, Nat.zero_mul, Nat.zero_add]; omega))⟩, ?_⟩ | refine .inl ⟨⟨by (first | omega | (simp only [lens, Int.toNat_natCast, bsz, Nat.zero_mul, Nat.zero_add]; omega)), by (first | omega | (simp only [lens, Int.toNat_natCast, bsz, Nat.zero_mul, Nat.zero_add]; omega))⟩, ?_⟩ | refine ⟨rfl, ?_⟩ | refine ⟨congrArg (Value.int _) (by omega), ?_⟩); (conv => whnf))
        | (refine And.intro ?_ ?_; rotate_left; (conv => whnf); rotate_right))
      refine .to (k + 1) hlt (by omega) ?_
      conv => whnf
      repeat' (first
        | exact trivial
        | ((first | refine .inl ⟨in64 (by omega) (by omega), ?_⟩ | refine .inl ⟨inU64 (by omega) (by omega), ?_⟩ | refine .inl ⟨inU8 (by omega) (by omega), ?_⟩); (conv => whnf))
        | ((refine ⟨fun hb => ?_, fun hb => ?_⟩) <;> (try simp only [decide_eq_true_eq, decide_eq_false_iff_not, Int.not_lt, Int.not_le, beq_iff_eq, beq_eq_false_iff_ne, bne_iff_ne, bne_eq_false_iff_eq, ne_eq, Decidable.not_not, Bool.not_eq_true', Bool.not_eq_false', Bool.not_eq_true, Bool.not_eq_false, Int.toNat_natCast, Bool.and_eq_true, Bool.or_eq_true, Bool.and_eq_false_iff, Bool.or_eq_false_iff, List.length_nil, List.length_cons] at hb) <;> (first | (exfalso; omega) | contradiction | (conv => whnf)))
        | ((first | refine Draws.of cfg_ok (by kernel_rfl) ?_ | refine ⟨(by kernel_rfl : confB _ _ _ _ _ = true), ?_⟩ | refine ⟨by (first | omega | (simp only [lens, Int.toNat_natCast, bsz, Nat.zero_mul, Nat.zero_add]; omega)), ?_⟩ | refine .inl ⟨by omega, by omega, ?_⟩ | refine .inr ⟨⟨by (first | omega | (simp only [lens, Int.toNat_natCast, bsz, Nat.zero_mul, Nat.zero_add]; omega)), by (first | omega | (simp only [lens, Int.toNat_natCast, bsz, Nat.zero_mul, Nat.zero_add]; omega))⟩, ?_⟩ | refine .inl ⟨⟨by (first | omega | (simp only [lens, Int.toNat_natCast, bsz, Nat.zero_mul, Nat.zero_add]; omega)), by (first | omega | (simp only [lens, Int.toNat_natCast, bsz, Nat.zero_mul, Nat.zero_add]; omega))⟩, ?_⟩ | refine ⟨rfl, ?_⟩ | refine ⟨congrArg (Value.int _) (by omega), ?_⟩); (conv => whnf))
        | (refine And.intro ?_ ?_; rotate_left; (conv => whnf); rotate_right))
      all_goals (try simp only [Int.toNat_natCast, Nat.add_zero, List.length_set])
      all_goals (try rw [set_elt_box])
      all_goals exact List.take_length
    · conv => whnf
      repeat' (first
        | exact trivial
        | ((first | refine .inl ⟨in64 (by omega) (by omega), ?_⟩ | refine .inl ⟨inU64 (by omega) (by omega), ?_⟩ | refine .inl ⟨inU8 (by omega) (by omega), ?_⟩); (conv => whnf))
        | ((refine ⟨fun hb => ?_, fun hb => ?_⟩) <;> (try simp only [decide_eq_true_eq, decide_eq_false_iff_not, Int.not_lt, Int.not_le, beq_iff_eq, beq_eq_false_iff_ne, bne_iff_ne, bne_eq_false_iff_eq, ne_eq, Decidable.not_not, Bool.not_eq_true', Bool.not_eq_false', Bool.not_eq_true, Bool.not_eq_false, Int.toNat_natCast, Bool.and_eq_true, Bool.or_eq_true, Bool.and_eq_false_iff, Bool.or_eq_false_iff, List.length_nil, List.length_cons] at hb) <;> (first | (exfalso; omega) | contradiction | (conv => whnf)))
        | ((first | refine Draws.of cfg_ok (by kernel_rfl) ?_ | refine ⟨(by kernel_rfl : confB _ _ _ _ _ = true), ?_⟩ | refine ⟨by (first | omega | (simp only [lens, Int.toNat_natCast, bsz, Nat.zero_mul, Nat.zero_add]; omega)), ?_⟩ | refine .inl ⟨by omega, by omega, ?_⟩ | refine .inr ⟨⟨by (first | omega | (simp only [lens, Int.toNat_natCast, bsz, Nat.zero_mul, Nat.zero_add]; omega)), by (first | omega | (simp only [lens, Int.toNat_natCast, bsz, Nat.zero_mul, Nat.zero_add]; omega))⟩, ?_⟩ | refine .inl ⟨⟨by (first | omega | (simp only [lens, Int.toNat_natCast, bsz, Nat.zero_mul, Nat.zero_add]; omega)), by (first | omega | (simp only [lens, Int.toNat_natCast, bsz, Nat.zero_mul, Nat.zero_add]; omega))⟩, ?_⟩ | refine ⟨rfl, ?_⟩ | refine ⟨congrArg (Value.int _) (by omega), ?_⟩); (conv => whnf))
        | (refine And.intro ?_ ?_; rotate_left; (conv => whnf); rotate_right))
      all_goals simp

theorem set_elt {tt : Ty} (l : List (El tt)) (k : Nat) : l.set k (elt tt l k) = l := by
  by_cases h : k < l.length
  · have := elt_get tt l k h
    rw [List.getElem?_eq_getElem h] at this
    rw [← Option.some.inj this]; exact List.set_getElem_self h
  · exact List.set_eq_of_length_le (by omega)

abbrev wldO (w : Wld) (a b : Nat) : List AV := [i64 w.size, .lit (.int .u64 w.seed), i64 w.tick, .own .chunk a 0 w.chunks.length none, .own .player b 0 w.players.length none]
abbrev wldR (w : Wld) (a b : Nat) : Mem := [(a, .row .chunk w.chunks), (b, .row .player w.players)]

set_option maxRecDepth 100000 in
set_option maxHeartbeats 4000000 in
theorem wcopied_ev (w : Wld) (hw : OkW w) : Ev1 Try.prog 51 [wldV w] [] (.agg (wldO w 390001 390003)) (wldR w 390001 390003) := by
  have h1 := hw.nc
  have h2 := hw.np
  refine Ev1.of_fin cfg_ok Try.func51 rfl (nt := 45) rfl rfl rfl ?_
  conv => whnf
  repeat' (first
    | exact trivial
    | ((first | refine .inl ⟨in64 (by omega) (by omega), ?_⟩ | refine .inl ⟨inU64 (by omega) (by omega), ?_⟩ | refine .inl ⟨inU8 (by omega) (by omega), ?_⟩); (conv => whnf))
    | ((refine ⟨fun hb => ?_, fun hb => ?_⟩) <;> (try simp only [decide_eq_true_eq, decide_eq_false_iff_not, Int.not_lt, Int.not_le, beq_iff_eq, beq_eq_false_iff_ne, bne_iff_ne, bne_eq_false_iff_eq, ne_eq, Decidable.not_not, Bool.not_eq_true', Bool.not_eq_false', Bool.not_eq_true, Bool.not_eq_false, Int.toNat_natCast, Bool.and_eq_true, Bool.or_eq_true, Bool.and_eq_false_iff, Bool.or_eq_false_iff, List.length_nil, List.length_cons] at hb) <;> (first | (exfalso; omega) | contradiction | (conv => whnf)))
    | ((first | (refine isE 75 ?_; refine callEv (clone_chunks _ (by omega)) [(390001, 350001)] rfl ?_ ?_ ?_) | (refine isD 75 ?_; refine callEvD (clone_chunks _ (by omega)) [(390001, 350001)] rfl ?_ ?_ ?_)); rotate_left; rotate_left; (conv => whnf); rotate_left; (repeat' (first | exact trivial | (refine ⟨rfl, ?_⟩))); kernel_rfl)
    | ((first | (refine isE 76 ?_; refine callEv (clone_players _ (by omega)) [(390001, 350003)] rfl ?_ ?_ ?_) | (refine isD 76 ?_; refine callEvD (clone_players _ (by omega)) [(390001, 350003)] rfl ?_ ?_ ?_)); rotate_left; rotate_left; (conv => whnf); rotate_left; (repeat' (first | exact trivial | (refine ⟨rfl, ?_⟩))); kernel_rfl)
    | ((first | refine Draws.of cfg_ok (by kernel_rfl) ?_ | refine ⟨(by kernel_rfl : confB _ _ _ _ _ = true), ?_⟩ | refine ⟨by (first | omega | (simp only [lens, Int.toNat_natCast, bsz, Nat.zero_mul, Nat.zero_add]; omega)), ?_⟩ | refine .inl ⟨by omega, by omega, ?_⟩ | refine .inr ⟨⟨by (first | omega | (simp only [lens, Int.toNat_natCast, bsz, Nat.zero_mul, Nat.zero_add]; omega)), by (first | omega | (simp only [lens, Int.toNat_natCast, bsz, Nat.zero_mul, Nat.zero_add]; omega))⟩, ?_⟩ | refine .inl ⟨⟨by (first | omega | (simp only [lens, Int.toNat_natCast, bsz, Nat.zero_mul, Nat.zero_add]; omega)), by (first | omega | (simp only [lens, Int.toNat_natCast, bsz, Nat.zero_mul, Nat.zero_add]; omega))⟩, ?_⟩ | refine ⟨rfl, ?_⟩ | refine ⟨congrArg (Value.int _) (by omega), ?_⟩); (conv => whnf))
    | (refine And.intro ?_ ?_; rotate_left; (conv => whnf); rotate_right))
  refine Runs.loopS cfg_ok (σ := Nat) [1, 2, 16, 17, 18] (fun k => [.ptr 200002 0, .ptr 200004 0, .own .chunk 350001 0 w.chunks.length none, i64 w.chunks.length, i64 k]) (fun _ => (200002, .box (wldO w 350001 350003)) :: (200004, .box (wldC ⟨0, 0, 0, [], []⟩)) :: wldR w 350001 350003) (fun k => k ≤ w.chunks.length) (fun k => w.chunks.length - k) 0 (by omega) ?_ ?_
  · conv => whnf
    repeat' (first
      | exact trivial
      | ((first | refine .inl ⟨in64 (by omega) (by omega), ?_⟩ | refine .inl ⟨inU64 (by omega) (by omega), ?_⟩ | refine .inl ⟨inU8 (by omega) (by omega), ?_⟩); (conv => whnf))
      | ((refine ⟨fun hb => ?_, fun hb => ?_⟩) <;> (try simp only [decide_eq_true_eq, decide_eq_false_iff_not, Int.not_lt, Int.not_le, beq_iff_eq, beq_eq_false_iff_ne, bne_iff_ne, bne_eq_false_iff_eq, ne_eq, Decidable.not_not, Bool.not_eq_true', Bool.not_eq_false', Bool.not_eq_true, Bool.not_eq_false, Int.toNat_natCast, Bool.and_eq_true, Bool.or_eq_true, Bool.and_eq_false_iff, Bool.or_eq_false_iff, List.length_nil, List.length_cons] at hb) <;> (first | (exfalso; omega) | contradiction | (conv => whnf)))
      | ((first | refine Draws.of cfg_ok (by kernel_rfl) ?_ | refine ⟨(by kernel_rfl : confB _ _ _ _ _ = true), ?_⟩ | refine ⟨by (first | omega | (simp only [lens, Int.toNat_natCast, bsz, Nat.zero_mul, Nat.zero_add]; omega)), ?_⟩ | refine .inl ⟨by omega, by omega, ?_⟩ | refine .inr ⟨⟨by (first | omega | (simp only [lens, Int.toNat_natCast, bsz, Nat.zero_mul, Nat.zero_add]; omega)), by (first | omega | (simp only [lens, Int.toNat_natCast, bsz, Nat.zero_mul, Nat.zero_add]; omega))⟩, ?_⟩ | refine .inl ⟨⟨by (first | omega | (simp only [lens, Int.toNat_natCast, bsz, Nat.zero_mul, Nat.zero_add]; omega)), by (first | omega | (simp only [lens, Int.toNat_natCast, bsz, Nat.zero_mul, Nat.zero_add]; omega))⟩, ?_⟩ | refine ⟨rfl, ?_⟩ | refine ⟨congrArg (Value.int _) (by omega), ?_⟩); (conv => whnf))
      | (refine And.intro ?_ ?_; rotate_left; (conv => whnf); rotate_right))
    all_goals first | exact List.take_length | exact (congrArg (List.take _) (set_elt (tt := .chunk) _ _)).trans List.take_length | exact (congrArg (List.take _) (set_elt (tt := .player) _ _)).trans List.take_length | (simp; done) | trace_state
  · intro k hk
    by_cases hlt : k < w.chunks.length
    · have hf := hw.fit _ (elt_mem (t := .chunk) hlt)
      conv => whnf
      repeat' (first
        | exact trivial
        | ((first | refine .inl ⟨in64 (by omega) (by omega), ?_⟩ | refine .inl ⟨inU64 (by omega) (by omega), ?_⟩ | refine .inl ⟨inU8 (by omega) (by omega), ?_⟩); (conv => whnf))
        | ((refine ⟨fun hb => ?_, fun hb => ?_⟩) <;> (try simp only [decide_eq_true_eq, decide_eq_false_iff_not, Int.not_lt, Int.not_le, beq_iff_eq, beq_eq_false_iff_ne, bne_iff_ne, bne_eq_false_iff_eq, ne_eq, Decidable.not_not, Bool.not_eq_true', Bool.not_eq_false', Bool.not_eq_true, Bool.not_eq_false, Int.toNat_natCast, Bool.and_eq_true, Bool.or_eq_true, Bool.and_eq_false_iff, Bool.or_eq_false_iff, List.length_nil, List.length_cons] at hb) <;> (first | (exfalso; omega) | contradiction | (conv => whnf)))
        | ((first | (refine isE 77 ?_; refine callApi (wown_api (elt .chunk w.chunks k) hf) rfl rfl ?_) | (refine isD 77 ?_; refine callApiD (wown_api (elt .chunk w.chunks k) hf) rfl rfl ?_) | refine Draws.of cfg_ok (by kernel_rfl) ?_ | refine ⟨(by kernel_rfl : confB _ _ _ _ _ = true), ?_⟩ | refine ⟨by (first | omega | (simp only [lens, Int.toNat_natCast, bsz, Nat.zero_mul, Nat.zero_add]; omega)), ?_⟩ | refine .inl ⟨by omega, by omega, ?_⟩ | refine .inr ⟨⟨by (first | omega | (simp only [lens, Int.toNat_natCast, bsz, Nat.zero_mul, Nat.zero_add]; omega)), by (first | omega | (simp only [lens, Int.toNat_natCast, bsz, Nat.zero_mul, Nat.zero_add]; omega))⟩, ?_⟩ | refine .inl ⟨⟨by (first | omega | (simp only [lens, Int.toNat_natCast, bsz, Nat.zero_mul, Nat.zero_add]; omega)), by (first | omega | (simp only [lens, Int.toNat_natCast, bsz, Nat.zero_mul, Nat.zero_add]; omega))⟩, ?_⟩ | refine ⟨rfl, ?_⟩ | refine ⟨congrArg (Value.int _) (by omega), ?_⟩); (conv => whnf))
        | (refine And.intro ?_ ?_; rotate_left; (conv => whnf); rotate_right))
      refine .to (k + 1) hlt (by omega) ?_
      conv => whnf
      repeat' (first
        | exact trivial
        | ((first | refine .inl ⟨in64 (by omega) (by omega), ?_⟩ | refine .inl ⟨inU64 (by omega) (by omega), ?_⟩ | refine .inl ⟨inU8 (by omega) (by omega), ?_⟩); (conv => whnf))
        | ((refine ⟨fun hb => ?_, fun hb => ?_⟩) <;> (try simp only [decide_eq_true_eq, decide_eq_false_iff_not, Int.not_lt, Int.not_le, beq_iff_eq, beq_eq_false_iff_ne, bne_iff_ne, bne_eq_false_iff_eq, ne_eq, Decidable.not_not, Bool.not_eq_true', Bool.not_eq_false', Bool.not_eq_true, Bool.not_eq_false, Int.toNat_natCast, Bool.and_eq_true, Bool.or_eq_true, Bool.and_eq_false_iff, Bool.or_eq_false_iff, List.length_nil, List.length_cons] at hb) <;> (first | (exfalso; omega) | contradiction | (conv => whnf)))
        | ((first | refine Draws.of cfg_ok (by kernel_rfl) ?_ | refine ⟨(by kernel_rfl : confB _ _ _ _ _ = true), ?_⟩ | refine ⟨by (first | omega | (simp only [lens, Int.toNat_natCast, bsz, Nat.zero_mul, Nat.zero_add]; omega)), ?_⟩ | refine .inl ⟨by omega, by omega, ?_⟩ | refine .inr ⟨⟨by (first | omega | (simp only [lens, Int.toNat_natCast, bsz, Nat.zero_mul, Nat.zero_add]; omega)), by (first | omega | (simp only [lens, Int.toNat_natCast, bsz, Nat.zero_mul, Nat.zero_add]; omega))⟩, ?_⟩ | refine .inl ⟨⟨by (first | omega | (simp only [lens, Int.toNat_natCast, bsz, Nat.zero_mul, Nat.zero_add]; omega)), by (first | omega | (simp only [lens, Int.toNat_natCast, bsz, Nat.zero_mul, Nat.zero_add]; omega))⟩, ?_⟩ | refine ⟨rfl, ?_⟩ | refine ⟨congrArg (Value.int _) (by omega), ?_⟩); (conv => whnf))
        | (refine And.intro ?_ ?_; rotate_left; (conv => whnf); rotate_right))
      all_goals first | exact List.take_length | exact (congrArg (List.take _) (set_elt (tt := .chunk) _ _)).trans List.take_length | exact (congrArg (List.take _) (set_elt (tt := .player) _ _)).trans List.take_length | (simp; done) | trace_state
    · obtain rfl : k = w.chunks.length := by omega
      conv => whnf
      repeat' (first
        | exact trivial
        | ((first | refine .inl ⟨in64 (by omega) (by omega), ?_⟩ | refine .inl ⟨inU64 (by omega) (by omega), ?_⟩ | refine .inl ⟨inU8 (by omega) (by omega), ?_⟩); (conv => whnf))
        | ((refine ⟨fun hb => ?_, fun hb => ?_⟩) <;> (try simp only [decide_eq_true_eq, decide_eq_false_iff_not, Int.not_lt, Int.not_le, beq_iff_eq, beq_eq_false_iff_ne, bne_iff_ne, bne_eq_false_iff_eq, ne_eq, Decidable.not_not, Bool.not_eq_true', Bool.not_eq_false', Bool.not_eq_true, Bool.not_eq_false, Int.toNat_natCast, Bool.and_eq_true, Bool.or_eq_true, Bool.and_eq_false_iff, Bool.or_eq_false_iff, List.length_nil, List.length_cons] at hb) <;> (first | (exfalso; omega) | contradiction | (conv => whnf)))
        | ((first | refine Draws.of cfg_ok (by kernel_rfl) ?_ | refine ⟨(by kernel_rfl : confB _ _ _ _ _ = true), ?_⟩ | refine ⟨by (first | omega | (simp only [lens, Int.toNat_natCast, bsz, Nat.zero_mul, Nat.zero_add]; omega)), ?_⟩ | refine .inl ⟨by omega, by omega, ?_⟩ | refine .inr ⟨⟨by (first | omega | (simp only [lens, Int.toNat_natCast, bsz, Nat.zero_mul, Nat.zero_add]; omega)), by (first | omega | (simp only [lens, Int.toNat_natCast, bsz, Nat.zero_mul, Nat.zero_add]; omega))⟩, ?_⟩ | refine .inl ⟨⟨by (first | omega | (simp only [lens, Int.toNat_natCast, bsz, Nat.zero_mul, Nat.zero_add]; omega)), by (first | omega | (simp only [lens, Int.toNat_natCast, bsz, Nat.zero_mul, Nat.zero_add]; omega))⟩, ?_⟩ | refine ⟨rfl, ?_⟩ | refine ⟨congrArg (Value.int _) (by omega), ?_⟩); (conv => whnf))
        | (refine And.intro ?_ ?_; rotate_left; (conv => whnf); rotate_right))
      refine Runs.loopS cfg_ok (σ := Nat) [1, 2, 31, 32, 33] (fun k => [.ptr 200002 0, .ptr 200004 0, .own .player 350003 0 w.players.length none, i64 w.players.length, i64 k]) (fun _ => (200002, .box (wldO w 350001 350003)) :: (200004, .box (wldC ⟨0, 0, 0, [], []⟩)) :: wldR w 350001 350003) (fun k => k ≤ w.players.length) (fun k => w.players.length - k) 0 (by omega) ?_ ?_
      · conv => whnf
        repeat' (first
          | exact trivial
          | ((first | refine .inl ⟨in64 (by omega) (by omega), ?_⟩ | refine .inl ⟨inU64 (by omega) (by omega), ?_⟩ | refine .inl ⟨inU8 (by omega) (by omega), ?_⟩); (conv => whnf))
          | ((refine ⟨fun hb => ?_, fun hb => ?_⟩) <;> (try simp only [decide_eq_true_eq, decide_eq_false_iff_not, Int.not_lt, Int.not_le, beq_iff_eq, beq_eq_false_iff_ne, bne_iff_ne, bne_eq_false_iff_eq, ne_eq, Decidable.not_not, Bool.not_eq_true', Bool.not_eq_false', Bool.not_eq_true, Bool.not_eq_false, Int.toNat_natCast, Bool.and_eq_true, Bool.or_eq_true, Bool.and_eq_false_iff, Bool.or_eq_false_iff, List.length_nil, List.length_cons] at hb) <;> (first | (exfalso; omega) | contradiction | (conv => whnf)))
          | ((first | refine Draws.of cfg_ok (by kernel_rfl) ?_ | refine ⟨(by kernel_rfl : confB _ _ _ _ _ = true), ?_⟩ | refine ⟨by (first | omega | (simp only [lens, Int.toNat_natCast, bsz, Nat.zero_mul, Nat.zero_add]; omega)), ?_⟩ | refine .inl ⟨by omega, by omega, ?_⟩ | refine .inr ⟨⟨by (first | omega | (simp only [lens, Int.toNat_natCast, bsz, Nat.zero_mul, Nat.zero_add]; omega)), by (first | omega | (simp only [lens, Int.toNat_natCast, bsz, Nat.zero_mul, Nat.zero_add]; omega))⟩, ?_⟩ | refine .inl ⟨⟨by (first | omega | (simp only [lens, Int.toNat_natCast, bsz, Nat.zero_mul, Nat.zero_add]; omega)), by (first | omega | (simp only [lens, Int.toNat_natCast, bsz, Nat.zero_mul, Nat.zero_add]; omega))⟩, ?_⟩ | refine ⟨rfl, ?_⟩ | refine ⟨congrArg (Value.int _) (by omega), ?_⟩); (conv => whnf))
          | (refine And.intro ?_ ?_; rotate_left; (conv => whnf); rotate_right))
        all_goals first | exact List.take_length | exact (congrArg (List.take _) (set_elt (tt := .chunk) _ _)).trans List.take_length | exact (congrArg (List.take _) (set_elt (tt := .player) _ _)).trans List.take_length | (simp; done) | trace_state
      · intro k hk
        by_cases hlt : k < w.players.length
        · have hf := hw.players _ (elt_mem (t := .player) hlt)
          conv => whnf
          repeat' (first
            | exact trivial
            | ((first | refine .inl ⟨in64 (by omega) (by omega), ?_⟩ | refine .inl ⟨inU64 (by omega) (by omega), ?_⟩ | refine .inl ⟨inU8 (by omega) (by omega), ?_⟩); (conv => whnf))
            | ((refine ⟨fun hb => ?_, fun hb => ?_⟩) <;> (try simp only [decide_eq_true_eq, decide_eq_false_iff_not, Int.not_lt, Int.not_le, beq_iff_eq, beq_eq_false_iff_ne, bne_iff_ne, bne_eq_false_iff_eq, ne_eq, Decidable.not_not, Bool.not_eq_true', Bool.not_eq_false', Bool.not_eq_true, Bool.not_eq_false, Int.toNat_natCast, Bool.and_eq_true, Bool.or_eq_true, Bool.and_eq_false_iff, Bool.or_eq_false_iff, List.length_nil, List.length_cons] at hb) <;> (first | (exfalso; omega) | contradiction | (conv => whnf)))
            | ((first | (refine isE 55 ?_; refine callApi (alone_api (elt .player w.players k) hf) rfl rfl ?_) | (refine isD 55 ?_; refine callApiD (alone_api (elt .player w.players k) hf) rfl rfl ?_) | refine Draws.of cfg_ok (by kernel_rfl) ?_ | refine ⟨(by kernel_rfl : confB _ _ _ _ _ = true), ?_⟩ | refine ⟨by (first | omega | (simp only [lens, Int.toNat_natCast, bsz, Nat.zero_mul, Nat.zero_add]; omega)), ?_⟩ | refine .inl ⟨by omega, by omega, ?_⟩ | refine .inr ⟨⟨by (first | omega | (simp only [lens, Int.toNat_natCast, bsz, Nat.zero_mul, Nat.zero_add]; omega)), by (first | omega | (simp only [lens, Int.toNat_natCast, bsz, Nat.zero_mul, Nat.zero_add]; omega))⟩, ?_⟩ | refine .inl ⟨⟨by (first | omega | (simp only [lens, Int.toNat_natCast, bsz, Nat.zero_mul, Nat.zero_add]; omega)), by (first | omega | (simp only [lens, Int.toNat_natCast, bsz, Nat.zero_mul, Nat.zero_add]; omega))⟩, ?_⟩ | refine ⟨rfl, ?_⟩ | refine ⟨congrArg (Value.int _) (by omega), ?_⟩); (conv => whnf))
            | (refine And.intro ?_ ?_; rotate_left; (conv => whnf); rotate_right))
          refine .to (k + 1) hlt (by omega) ?_
          conv => whnf
          repeat' (first
            | exact trivial
            | ((first | refine .inl ⟨in64 (by omega) (by omega), ?_⟩ | refine .inl ⟨inU64 (by omega) (by omega), ?_⟩ | refine .inl ⟨inU8 (by omega) (by omega), ?_⟩); (conv => whnf))
            | ((refine ⟨fun hb => ?_, fun hb => ?_⟩) <;> (try simp only [decide_eq_true_eq, decide_eq_false_iff_not, Int.not_lt, Int.not_le, beq_iff_eq, beq_eq_false_iff_ne, bne_iff_ne, bne_eq_false_iff_eq, ne_eq, Decidable.not_not, Bool.not_eq_true', Bool.not_eq_false', Bool.not_eq_true, Bool.not_eq_false, Int.toNat_natCast, Bool.and_eq_true, Bool.or_eq_true, Bool.and_eq_false_iff, Bool.or_eq_false_iff, List.length_nil, List.length_cons] at hb) <;> (first | (exfalso; omega) | contradiction | (conv => whnf)))
            | ((first | refine Draws.of cfg_ok (by kernel_rfl) ?_ | refine ⟨(by kernel_rfl : confB _ _ _ _ _ = true), ?_⟩ | refine ⟨by (first | omega | (simp only [lens, Int.toNat_natCast, bsz, Nat.zero_mul, Nat.zero_add]; omega)), ?_⟩ | refine .inl ⟨by omega, by omega, ?_⟩ | refine .inr ⟨⟨by (first | omega | (simp only [lens, Int.toNat_natCast, bsz, Nat.zero_mul, Nat.zero_add]; omega)), by (first | omega | (simp only [lens, Int.toNat_natCast, bsz, Nat.zero_mul, Nat.zero_add]; omega))⟩, ?_⟩ | refine .inl ⟨⟨by (first | omega | (simp only [lens, Int.toNat_natCast, bsz, Nat.zero_mul, Nat.zero_add]; omega)), by (first | omega | (simp only [lens, Int.toNat_natCast, bsz, Nat.zero_mul, Nat.zero_add]; omega))⟩, ?_⟩ | refine ⟨rfl, ?_⟩ | refine ⟨congrArg (Value.int _) (by omega), ?_⟩); (conv => whnf))
            | (refine And.intro ?_ ?_; rotate_left; (conv => whnf); rotate_right))
          all_goals first | exact List.take_length | exact (congrArg (List.take _) (set_elt (tt := .chunk) _ _)).trans List.take_length | exact (congrArg (List.take _) (set_elt (tt := .player) _ _)).trans List.take_length | (simp; done) | trace_state
        · obtain rfl : k = w.players.length := by omega
          conv => whnf
          repeat' (first
            | exact trivial
            | ((first | refine .inl ⟨in64 (by omega) (by omega), ?_⟩ | refine .inl ⟨inU64 (by omega) (by omega), ?_⟩ | refine .inl ⟨inU8 (by omega) (by omega), ?_⟩); (conv => whnf))
            | ((refine ⟨fun hb => ?_, fun hb => ?_⟩) <;> (try simp only [decide_eq_true_eq, decide_eq_false_iff_not, Int.not_lt, Int.not_le, beq_iff_eq, beq_eq_false_iff_ne, bne_iff_ne, bne_eq_false_iff_eq, ne_eq, Decidable.not_not, Bool.not_eq_true', Bool.not_eq_false', Bool.not_eq_true, Bool.not_eq_false, Int.toNat_natCast, Bool.and_eq_true, Bool.or_eq_true, Bool.and_eq_false_iff, Bool.or_eq_false_iff, List.length_nil, List.length_cons] at hb) <;> (first | (exfalso; omega) | contradiction | (conv => whnf)))
            | ((first | refine Draws.of cfg_ok (by kernel_rfl) ?_ | refine ⟨(by kernel_rfl : confB _ _ _ _ _ = true), ?_⟩ | refine ⟨by (first | omega | (simp only [lens, Int.toNat_natCast, bsz, Nat.zero_mul, Nat.zero_add]; omega)), ?_⟩ | refine .inl ⟨by omega, by omega, ?_⟩ | refine .inr ⟨⟨by (first | omega | (simp only [lens, Int.toNat_natCast, bsz, Nat.zero_mul, Nat.zero_add]; omega)), by (first | omega | (simp only [lens, Int.toNat_natCast, bsz, Nat.zero_mul, Nat.zero_add]; omega))⟩, ?_⟩ | refine .inl ⟨⟨by (first | omega | (simp only [lens, Int.toNat_natCast, bsz, Nat.zero_mul, Nat.zero_add]; omega)), by (first | omega | (simp only [lens, Int.toNat_natCast, bsz, Nat.zero_mul, Nat.zero_add]; omega))⟩, ?_⟩ | refine ⟨rfl, ?_⟩ | refine ⟨congrArg (Value.int _) (by omega), ?_⟩); (conv => whnf))
            | (refine And.intro ?_ ?_; rotate_left; (conv => whnf); rotate_right))
          all_goals first | exact List.take_length | exact (congrArg (List.take _) (set_elt (tt := .chunk) _ _)).trans List.take_length | exact (congrArg (List.take _) (set_elt (tt := .player) _ _)).trans List.take_length | (simp; done) | trace_state


/-- What a binary search comes to. -/
def bsGo (lt : Nat → Bool) (i j : Nat) : Nat := if i < j then (if lt ((i + j) / 2) = true then bsGo lt ((i + j) / 2 + 1) j else bsGo lt i ((i + j) / 2)) else i
termination_by j - i
decreasing_by all_goals omega
theorem bsGo_lo {lt : Nat → Bool} {i j : Nat} (h : i < j) (h2 : lt ((i + j) / 2) = true) : bsGo lt i j = bsGo lt ((i + j) / 2 + 1) j := by rw [bsGo, if_pos h, if_pos h2]
theorem bsGo_hi {lt : Nat → Bool} {i j : Nat} (h : i < j) (h2 : lt ((i + j) / 2) = false) : bsGo lt i j = bsGo lt i ((i + j) / 2) := by rw [bsGo, if_pos h, if_neg (by rw [h2]; simp)]
theorem bsGo_end {lt : Nat → Bool} {i j : Nat} (h : ¬ i < j) : bsGo lt i j = i := by rw [bsGo, if_neg h]
theorem bsGo_le {lt : Nat → Bool} : ∀ (n i j : Nat), j - i ≤ n → i ≤ j → i ≤ bsGo lt i j ∧ bsGo lt i j ≤ j
  | 0, i, j, h, hij => by rw [bsGo_end (by omega)]; omega
  | n + 1, i, j, h, hij => by
    by_cases hlt : i < j
    · cases hl : lt ((i + j) / 2) with
      | true => rw [bsGo_lo hlt hl]; have := bsGo_le (lt := lt) n ((i + j) / 2 + 1) j (by omega) (by omega); omega
      | false => rw [bsGo_hi hlt hl]; have := bsGo_le (lt := lt) n i ((i + j) / 2) (by omega) (by omega); omega
    · rw [bsGo_end hlt]; omega
theorem bsGo_at {lt : Nat → Bool} {b m : Nat} (hlt : ∀ k < m, lt k = decide (k < b)) : ∀ (n i j : Nat), j - i ≤ n → i ≤ b → b ≤ j → j ≤ m → bsGo lt i j = b
  | 0, i, j, h, hi, hj, hm => by rw [bsGo_end (by omega)]; omega
  | n + 1, i, j, h, hi, hj, hm => by
    by_cases hij : i < j
    · have hk := hlt ((i + j) / 2) (by omega)
      by_cases hb : (i + j) / 2 < b
      · rw [decide_eq_true hb] at hk
        rw [bsGo_lo hij hk]; exact bsGo_at hlt n _ _ (by omega) (by omega) hj hm
      · rw [decide_eq_false hb] at hk
        rw [bsGo_hi hij hk]; exact bsGo_at hlt n _ _ (by omega) hi (by omega) (by omega)
    · rw [bsGo_end hij]; omega

abbrev pid : Player → Int := Player.id
def bsP (l : List Player) (t : Int) : Nat := bsGo (fun k => decide ((elt .player l k).id < t)) 0 l.length
def fdP (l : List Player) (t : Int) : Bool := decide (bsP l t < l.length) && ((elt .player l (bsP l t)).id == t)
theorem bsP_le (l : List Player) (t : Int) : bsP l t ≤ l.length := (bsGo_le _ 0 l.length (Nat.le_refl _) (by omega)).2
theorem bsP_rises {l : List Player} (h : risesK pid l) (t : Int) : bsP l t = lbK pid t l ∧ fdP l t = (getK pid l t).isSome := by
  have hat := lbK_at t h
  have hle := lbK_le pid t l
  have e1 : bsP l t = lbK pid t l := by
    refine bsGo_at (m := l.length) (fun k hk => ?_) _ 0 l.length (Nat.le_refl _) (by omega) hle (Nat.le_refl _)
    have hke := elt_get .player l k hk
    -- the boundary
    have hb1 : ∀ {l : List Player} {k : Nat} {a : Player}, l[k]? = some a → k < lbK pid t l → a.id < t := by
      intro l
      induction l with
      | nil => intro k a ha; simp at ha
      | cons b r ih =>
        intro k a ha hk
        simp only [lbK] at hk
        split at hk
        · cases k with
          | zero => simp at ha; subst ha; assumption
          | succ k => simp at ha; exact ih ha (by omega)
        · omega
    by_cases hkb : k < lbK pid t l
    · rw [decide_eq_true hkb, decide_eq_true (hb1 hke hkb)]
    · rw [decide_eq_false hkb, decide_eq_false]
      have hlt' : lbK pid t l < l.length := by omega
      have hbe := elt_get .player l _ hlt'
      have hge : t ≤ (elt .player l (lbK pid t l)).id := by
        have : ∀ {l : List Player} {b : Player}, l[lbK pid t l]? = some b → t ≤ b.id := by
          intro l
          induction l with
          | nil => intro b hb; simp at hb
          | cons c r ih =>
            intro b hb
            simp only [lbK] at hb
            split at hb
            · simp at hb; exact ih hb
            · rename_i hc; simp at hb; subst hb; simp only [pid] at hc; omega
        exact this hbe
      rcases Nat.eq_or_lt_of_le (Nat.le_of_not_lt hkb) with he | hl
      · rw [← he]; exact Int.not_lt.2 hge
      · have h3 : (elt .player l (lbK pid t l)).id < (elt .player l k).id := risesK_lt h hl hbe hke
        exact Int.not_lt.2 (Int.le_trans hge (Int.le_of_lt h3))
  refine ⟨e1, ?_⟩
  unfold fdP
  rw [e1]
  by_cases hlt : lbK pid t l < l.length
  · have hbe := elt_get .player l _ hlt
    rw [hbe] at hat
    simp only at hat
    rw [decide_eq_true hlt, Bool.true_and, ← hat]
    by_cases he : (elt .player l (lbK pid t l)).id = t
    · rw [if_pos he]; simpa using he
    · rw [if_neg he]; simpa using he
  · rw [List.getElem?_eq_none (by omega)] at hat
    rw [decide_eq_false hlt, ← hat]; rfl

set_option maxRecDepth 100000 in
set_option maxHeartbeats 4000000 in
theorem seek1_api (p : Player) (t : Int) : Api Try.prog 79 [.agg (cells .player p), i64 t] (i64 (cmpI p.id t)) := by
  refine Api.of_fin cfg_ok Try.func79 rfl (nt := 7) rfl rfl ?_
  conv => whnf
  repeat' (first
    | exact trivial
    | ((first | refine .inl ⟨in64 (by omega) (by omega), ?_⟩ | refine .inl ⟨inU64 (by omega) (by omega), ?_⟩ | refine .inl ⟨inU8 (by omega) (by omega), ?_⟩); (conv => whnf))
    | ((refine ⟨fun hb => ?_, fun hb => ?_⟩) <;> (try simp only [decide_eq_true_eq, decide_eq_false_iff_not, Int.not_lt, Int.not_le, beq_iff_eq, beq_eq_false_iff_ne, bne_iff_ne, bne_eq_false_iff_eq, ne_eq, Decidable.not_not, Bool.not_eq_true', Bool.not_eq_false', Bool.not_eq_true, Bool.not_eq_false, Int.toNat_natCast, Bool.and_eq_true, Bool.or_eq_true, Bool.and_eq_false_iff, Bool.or_eq_false_iff, List.length_nil, List.length_cons] at hb) <;> (first | (exfalso; omega) | contradiction | (conv => whnf)))
    | ((first | (refine isE 80 ?_; refine callApi (cmp_api _ _) rfl rfl ?_) | (refine isD 80 ?_; refine callApiD (cmp_api _ _) rfl rfl ?_) | refine Draws.of cfg_ok (by kernel_rfl) ?_ | refine ⟨(by kernel_rfl : confB _ _ _ _ _ = true), ?_⟩ | refine ⟨by (first | omega | (simp only [lens, Int.toNat_natCast, bsz, Nat.zero_mul, Nat.zero_add]; omega)), ?_⟩ | refine .inl ⟨by omega, by omega, ?_⟩ | refine .inr ⟨⟨by (first | omega | (simp only [lens, Int.toNat_natCast, bsz, Nat.zero_mul, Nat.zero_add]; omega)), by (first | omega | (simp only [lens, Int.toNat_natCast, bsz, Nat.zero_mul, Nat.zero_add]; omega))⟩, ?_⟩ | refine .inl ⟨⟨by (first | omega | (simp only [lens, Int.toNat_natCast, bsz, Nat.zero_mul, Nat.zero_add]; omega)), by (first | omega | (simp only [lens, Int.toNat_natCast, bsz, Nat.zero_mul, Nat.zero_add]; omega))⟩, ?_⟩ | refine ⟨rfl, ?_⟩ | refine ⟨congrArg (Value.int _) (by omega), ?_⟩); (conv => whnf))
    | (refine And.intro ?_ ?_; rotate_left; (conv => whnf); rotate_right))

set_option maxRecDepth 100000 in
set_option maxHeartbeats 4000000 in
theorem bsearchP_api (l : List (El .player)) (t : Int) (hl : l.length ≤ 4000000000000000000) : Api Try.prog 78 [.vec .player l, i64 t, .lit (.func (.func 79) #[] #[])] (.tup [i64 (bsP l t), bol (fdP l t)]) := by
  refine Api.of_fin cfg_ok Try.func78 rfl (nt := 46) rfl rfl ?_
  conv => whnf
  refine Runs.loopS cfg_ok (σ := Nat × Nat) [0, 1, 2, 8, 9, 10] (fun (i, j) => [.vec .player l, i64 t, .lit (.func (.func 79) #[] #[]), i64 l.length, i64 i, i64 j]) (fun _ => []) (fun (i, j) => i ≤ j ∧ j ≤ l.length ∧ bsGo (fun k => decide ((elt .player l k).id < t)) i j = bsP l t) (fun (i, j) => j - i) (0, l.length) ⟨by omega, by omega, rfl⟩ ?_ ?_
  · conv => whnf
    repeat' (first
      | exact trivial
      | ((first | refine .inl ⟨in64 (by omega) (by omega), ?_⟩ | refine .inl ⟨inU64 (by omega) (by omega), ?_⟩ | refine .inl ⟨inU8 (by omega) (by omega), ?_⟩); (conv => whnf))
      | ((refine ⟨fun hb => ?_, fun hb => ?_⟩) <;> (try simp only [decide_eq_true_eq, decide_eq_false_iff_not, Int.not_lt, Int.not_le, beq_iff_eq, beq_eq_false_iff_ne, bne_iff_ne, bne_eq_false_iff_eq, ne_eq, Decidable.not_not, Bool.not_eq_true', Bool.not_eq_false', Bool.not_eq_true, Bool.not_eq_false, Int.toNat_natCast, Bool.and_eq_true, Bool.or_eq_true, Bool.and_eq_false_iff, Bool.or_eq_false_iff, List.length_nil, List.length_cons] at hb) <;> (first | (exfalso; omega) | contradiction | (conv => whnf)))
      | ((first | refine Draws.of cfg_ok (by kernel_rfl) ?_ | refine ⟨(by kernel_rfl : confB _ _ _ _ _ = true), ?_⟩ | refine ⟨by (first | omega | (simp only [lens, Int.toNat_natCast, bsz, Nat.zero_mul, Nat.zero_add]; omega)), ?_⟩ | refine .inl ⟨by omega, by omega, ?_⟩ | refine .inr ⟨⟨by (first | omega | (simp only [lens, Int.toNat_natCast, bsz, Nat.zero_mul, Nat.zero_add]; omega)), by (first | omega | (simp only [lens, Int.toNat_natCast, bsz, Nat.zero_mul, Nat.zero_add]; omega))⟩, ?_⟩ | refine .inl ⟨⟨by (first | omega | (simp only [lens, Int.toNat_natCast, bsz, Nat.zero_mul, Nat.zero_add]; omega)), by (first | omega | (simp only [lens, Int.toNat_natCast, bsz, Nat.zero_mul, Nat.zero_add]; omega))⟩, ?_⟩ | refine ⟨rfl, ?_⟩ | refine ⟨congrArg (Value.int _) (by omega), ?_⟩); (conv => whnf))
      | (refine And.intro ?_ ?_; rotate_left; (conv => whnf); rotate_right))
  · rintro ⟨i, j⟩ ⟨h1, h2, h3⟩
    conv => whnf
    repeat' (first
      | exact trivial
      | ((first | refine .inl ⟨in64 (by omega) (by omega), ?_⟩ | refine .inl ⟨inU64 (by omega) (by omega), ?_⟩ | refine .inl ⟨inU8 (by omega) (by omega), ?_⟩); (conv => whnf))
      | ((refine ⟨fun hb => ?_, fun hb => ?_⟩) <;> (try simp only [decide_eq_true_eq, decide_eq_false_iff_not, Int.not_lt, Int.not_le, beq_iff_eq, beq_eq_false_iff_ne, bne_iff_ne, bne_eq_false_iff_eq, ne_eq, Decidable.not_not, Bool.not_eq_true', Bool.not_eq_false', Bool.not_eq_true, Bool.not_eq_false, Int.toNat_natCast, Bool.and_eq_true, Bool.or_eq_true, Bool.and_eq_false_iff, Bool.or_eq_false_iff, List.length_nil, List.length_cons] at hb) <;> (first | (exfalso; omega) | contradiction | (conv => whnf)))
      | (rw [shr1]; (conv => whnf))
      | ((first | (refine isE 79 ?_; refine callApi (seek1_api _ _) rfl rfl ?_) | (refine isD 79 ?_; refine callApiD (seek1_api _ _) rfl rfl ?_) | refine Draws.of cfg_ok (by kernel_rfl) ?_ | refine ⟨(by kernel_rfl : confB _ _ _ _ _ = true), ?_⟩ | refine ⟨by (first | omega | (simp only [lens, Int.toNat_natCast, bsz, Nat.zero_mul, Nat.zero_add]; omega)), ?_⟩ | refine .inl ⟨by omega, by omega, ?_⟩ | refine .inr ⟨⟨by (first | omega | (simp only [lens, Int.toNat_natCast, bsz, Nat.zero_mul, Nat.zero_add]; omega)), by (first | omega | (simp only [lens, Int.toNat_natCast, bsz, Nat.zero_mul, Nat.zero_add]; omega))⟩, ?_⟩ | refine .inl ⟨⟨by (first | omega | (simp only [lens, Int.toNat_natCast, bsz, Nat.zero_mul, Nat.zero_add]; omega)), by (first | omega | (simp only [lens, Int.toNat_natCast, bsz, Nat.zero_mul, Nat.zero_add]; omega))⟩, ?_⟩ | refine ⟨rfl, ?_⟩ | refine ⟨congrArg (Value.int _) (by omega), ?_⟩); (conv => whnf))
      | (refine And.intro ?_ ?_; rotate_left; (conv => whnf); rotate_right))
    · rw [cmpI_lt] at hb
      refine .to ((i + j) / 2 + 1, j) ⟨by omega, h2, by rw [← h3, bsGo_lo (i := i) (j := j) (by omega) (decide_eq_true hb)]⟩ (by dsimp only; omega) ?_
      conv => whnf
      repeat' (first
        | exact trivial
        | ((first | refine .inl ⟨in64 (by omega) (by omega), ?_⟩ | refine .inl ⟨inU64 (by omega) (by omega), ?_⟩ | refine .inl ⟨inU8 (by omega) (by omega), ?_⟩); (conv => whnf))
        | ((refine ⟨fun hb => ?_, fun hb => ?_⟩) <;> (try simp only [decide_eq_true_eq, decide_eq_false_iff_not, Int.not_lt, Int.not_le, beq_iff_eq, beq_eq_false_iff_ne, bne_iff_ne, bne_eq_false_iff_eq, ne_eq, Decidable.not_not, Bool.not_eq_true', Bool.not_eq_false', Bool.not_eq_true, Bool.not_eq_false, Int.toNat_natCast, Bool.and_eq_true, Bool.or_eq_true, Bool.and_eq_false_iff, Bool.or_eq_false_iff, List.length_nil, List.length_cons] at hb) <;> (first | (exfalso; omega) | contradiction | (conv => whnf)))
        | ((first | refine Draws.of cfg_ok (by kernel_rfl) ?_ | refine ⟨(by kernel_rfl : confB _ _ _ _ _ = true), ?_⟩ | refine ⟨by (first | omega | (simp only [lens, Int.toNat_natCast, bsz, Nat.zero_mul, Nat.zero_add]; omega)), ?_⟩ | refine .inl ⟨by omega, by omega, ?_⟩ | refine .inr ⟨⟨by (first | omega | (simp only [lens, Int.toNat_natCast, bsz, Nat.zero_mul, Nat.zero_add]; omega)), by (first | omega | (simp only [lens, Int.toNat_natCast, bsz, Nat.zero_mul, Nat.zero_add]; omega))⟩, ?_⟩ | refine .inl ⟨⟨by (first | omega | (simp only [lens, Int.toNat_natCast, bsz, Nat.zero_mul, Nat.zero_add]; omega)), by (first | omega | (simp only [lens, Int.toNat_natCast, bsz, Nat.zero_mul, Nat.zero_add]; omega))⟩, ?_⟩ | refine ⟨rfl, ?_⟩ | refine ⟨congrArg (Value.int _) (by omega), ?_⟩); (conv => whnf))
        | (refine And.intro ?_ ?_; rotate_left; (conv => whnf); rotate_right))
    · rw [cmpI_ge] at hb
      refine .to (i, (i + j) / 2) ⟨by omega, by omega, by rw [← h3, bsGo_hi (i := i) (j := j) (by omega) (decide_eq_false (Int.not_lt.2 hb))]⟩ (by dsimp only; omega) ?_
      conv => whnf
      repeat' (first
        | exact trivial
        | ((first | refine .inl ⟨in64 (by omega) (by omega), ?_⟩ | refine .inl ⟨inU64 (by omega) (by omega), ?_⟩ | refine .inl ⟨inU8 (by omega) (by omega), ?_⟩); (conv => whnf))
        | ((refine ⟨fun hb => ?_, fun hb => ?_⟩) <;> (try simp only [decide_eq_true_eq, decide_eq_false_iff_not, Int.not_lt, Int.not_le, beq_iff_eq, beq_eq_false_iff_ne, bne_iff_ne, bne_eq_false_iff_eq, ne_eq, Decidable.not_not, Bool.not_eq_true', Bool.not_eq_false', Bool.not_eq_true, Bool.not_eq_false, Int.toNat_natCast, Bool.and_eq_true, Bool.or_eq_true, Bool.and_eq_false_iff, Bool.or_eq_false_iff, List.length_nil, List.length_cons] at hb) <;> (first | (exfalso; omega) | contradiction | (conv => whnf)))
        | ((first | refine Draws.of cfg_ok (by kernel_rfl) ?_ | refine ⟨(by kernel_rfl : confB _ _ _ _ _ = true), ?_⟩ | refine ⟨by (first | omega | (simp only [lens, Int.toNat_natCast, bsz, Nat.zero_mul, Nat.zero_add]; omega)), ?_⟩ | refine .inl ⟨by omega, by omega, ?_⟩ | refine .inr ⟨⟨by (first | omega | (simp only [lens, Int.toNat_natCast, bsz, Nat.zero_mul, Nat.zero_add]; omega)), by (first | omega | (simp only [lens, Int.toNat_natCast, bsz, Nat.zero_mul, Nat.zero_add]; omega))⟩, ?_⟩ | refine .inl ⟨⟨by (first | omega | (simp only [lens, Int.toNat_natCast, bsz, Nat.zero_mul, Nat.zero_add]; omega)), by (first | omega | (simp only [lens, Int.toNat_natCast, bsz, Nat.zero_mul, Nat.zero_add]; omega))⟩, ?_⟩ | refine ⟨rfl, ?_⟩ | refine ⟨congrArg (Value.int _) (by omega), ?_⟩); (conv => whnf))
        | (refine And.intro ?_ ?_; rotate_left; (conv => whnf); rotate_right))
    all_goals
      obtain rfl : i = j := by omega
      rw [bsGo_end (by omega)] at h3
      subst h3
    · rfl
    · unfold fdP
      rw [decide_eq_true (by omega)]; refine congrArg Value.bool ?_; rw [Bool.true_and, Bool.eq_iff_iff, beq_iff_eq, beq_iff_eq]; exact cmpI_eq
    · rfl
    · unfold fdP
      rw [decide_eq_false (by omega)]; rfl

set_option maxRecDepth 100000 in
set_option maxHeartbeats 4000000 in
theorem seek_api (w : Wld) (t : Int) (hl : w.players.length ≤ 4000000000000000000) : Api Try.prog 52 [wldV w, i64 t] (.tup [i64 (bsP w.players t), bol (fdP w.players t)]) := by
  refine Api.of_fin cfg_ok Try.func52 rfl (nt := 10) rfl rfl ?_
  conv => whnf
  repeat' (first
    | exact trivial
    | ((first | refine .inl ⟨in64 (by omega) (by omega), ?_⟩ | refine .inl ⟨inU64 (by omega) (by omega), ?_⟩ | refine .inl ⟨inU8 (by omega) (by omega), ?_⟩); (conv => whnf))
    | ((refine ⟨fun hb => ?_, fun hb => ?_⟩) <;> (try simp only [decide_eq_true_eq, decide_eq_false_iff_not, Int.not_lt, Int.not_le, beq_iff_eq, beq_eq_false_iff_ne, bne_iff_ne, bne_eq_false_iff_eq, ne_eq, Decidable.not_not, Bool.not_eq_true', Bool.not_eq_false', Bool.not_eq_true, Bool.not_eq_false, Int.toNat_natCast, Bool.and_eq_true, Bool.or_eq_true, Bool.and_eq_false_iff, Bool.or_eq_false_iff, List.length_nil, List.length_cons] at hb) <;> (first | (exfalso; omega) | contradiction | (conv => whnf)))
    | ((first | (refine isE 78 ?_; refine callApi (bsearchP_api w.players t hl) rfl rfl ?_) | (refine isD 78 ?_; refine callApiD (bsearchP_api w.players t hl) rfl rfl ?_) | refine Draws.of cfg_ok (by kernel_rfl) ?_ | refine ⟨(by kernel_rfl : confB _ _ _ _ _ = true), ?_⟩ | refine ⟨by (first | omega | (simp only [lens, Int.toNat_natCast, bsz, Nat.zero_mul, Nat.zero_add]; omega)), ?_⟩ | refine .inl ⟨by omega, by omega, ?_⟩ | refine .inr ⟨⟨by (first | omega | (simp only [lens, Int.toNat_natCast, bsz, Nat.zero_mul, Nat.zero_add]; omega)), by (first | omega | (simp only [lens, Int.toNat_natCast, bsz, Nat.zero_mul, Nat.zero_add]; omega))⟩, ?_⟩ | refine .inl ⟨⟨by (first | omega | (simp only [lens, Int.toNat_natCast, bsz, Nat.zero_mul, Nat.zero_add]; omega)), by (first | omega | (simp only [lens, Int.toNat_natCast, bsz, Nat.zero_mul, Nat.zero_add]; omega))⟩, ?_⟩ | refine ⟨rfl, ?_⟩ | refine ⟨congrArg (Value.int _) (by omega), ?_⟩); (conv => whnf))
    | (refine And.intro ?_ ?_; rotate_left; (conv => whnf); rotate_right))
theorem seek_own (w : Wld) (t : Int) (hl : w.players.length ≤ 4000000000000000000) : Ev1 Try.prog 52 [.agg (wldO w 1 3), i64 t] (wldR w 1 3) (.tup [i64 (bsP w.players t), bol (fdP w.players t)]) (wldR w 1 3) := by
  refine Api.lend (seek_api w t hl) ?_ rfl
  conv => whnf
  refine ⟨by omega, ?_⟩
  conv => whnf
  refine ⟨by omega, ?_⟩
  conv => whnf
  simp only [List.drop_zero, List.take_length]

theorem within_own (w : Wld) (x y : Int) : Ev1 Try.prog 54 [.agg (wldO w 1 3), i64 x, i64 y] (wldR w 1 3) (bol (withinW w.size x y)) (wldR w 1 3) := by
  refine Api.lend (within_api w x y) ?_ rfl
  conv => whnf
  refine ⟨by omega, ?_⟩
  conv => whnf
  refine ⟨by omega, ?_⟩
  conv => whnf
  simp only [List.drop_zero, List.take_length]
def withP (w : Wld) (l : List Player) : Wld := { w with players := l }
def setW (w : Wld) (p : Player) : Wld × Int :=
  if rightW w = false then (w, 113) else if soundB p = false ∨ withinW w.size p.x p.y = false then (w, 110)
  else if (getK pid w.players p.id).isSome = true then (withP w (w.players.set (lbK pid p.id w.players) p), 0)
  else if 32 ≤ w.players.length then (w, 3) else (withP w (w.players.take (lbK pid p.id w.players) ++ p :: w.players.drop (lbK pid p.id w.players)), 0)

theorem rightW_players {w : Wld} (h : rightW w = true) : risesK pid w.players ∧ w.players.length ≤ 32 ∧ 1 ≤ w.size ∧ w.size ≤ 16 := by
  simp only [rightW, headW, Bool.and_eq_true, decide_eq_true_eq] at h
  exact ⟨rises_of.1 h.2.2.2.1, by omega, h.1.1, h.1.2.1⟩

set_option maxRecDepth 100000 in
set_option maxHeartbeats 4000000 in
theorem set_world (w : Wld) (p : Player) (hw : OkW w) (hp : OkP p) : Api Try.prog 37 [wldV w, playerV p] (.tup [wldV (setW w p).1, i64 (setW w p).2]) := by
  have hnc := hw.nc
  have hnp := hw.np
  have hrt := rightW_api w hw
  have hsk := seek_own w p.id (by omega)
  have hso := sound_api p hp
  have hwi := within_api w p.x p.y
  have hwc := wcopied_ev w hw
  cases hR : rightW w with
  | false =>
    rw [hR] at hrt
    have hs : setW w p = (w, 113) := by unfold setW; rw [if_pos hR]
    rw [hs]
    refine Api.of_fin cfg_ok Try.func37 rfl (nt := 60) rfl rfl ?_
    conv => whnf
    repeat' (first
      | exact trivial
      | ((first | refine .inl ⟨in64 (by omega) (by omega), ?_⟩ | refine .inl ⟨inU64 (by omega) (by omega), ?_⟩ | refine .inl ⟨inU8 (by omega) (by omega), ?_⟩); (conv => whnf))
      | ((refine ⟨fun hb => ?_, fun hb => ?_⟩) <;> (try simp only [decide_eq_true_eq, decide_eq_false_iff_not, Int.not_lt, Int.not_le, beq_iff_eq, beq_eq_false_iff_ne, bne_iff_ne, bne_eq_false_iff_eq, ne_eq, Decidable.not_not, Bool.not_eq_true', Bool.not_eq_false', Bool.not_eq_true, Bool.not_eq_false, Int.toNat_natCast, Bool.and_eq_true, Bool.or_eq_true, Bool.and_eq_false_iff, Bool.or_eq_false_iff, List.length_nil, List.length_cons] at hb) <;> (first | (exfalso; omega) | contradiction | (conv => whnf)))
      | ((first | (refine callEv (hwc) [(390001, 150001), (390003, 150003)] rfl ?_ ?_ ?_) | (refine callEvD (hwc) [(390001, 150001), (390003, 150003)] rfl ?_ ?_ ?_)); rotate_left; rotate_left; (conv => whnf); rotate_left; (repeat' (first | exact trivial | (refine ⟨rfl, ?_⟩))); kernel_rfl)
      | ((first | (refine callEv (hsk) [(1, 150001), (3, 150003)] rfl ?_ ?_ ?_) | (refine callEvD (hsk) [(1, 150001), (3, 150003)] rfl ?_ ?_ ?_)); rotate_left; rotate_left; (conv => whnf); rotate_left; (repeat' (first | exact trivial | (refine ⟨rfl, ?_⟩))); kernel_rfl)
      | ((first | (refine callApi (hrt) rfl rfl ?_) | (refine callApiD (hrt) rfl rfl ?_) | refine Draws.of cfg_ok (by kernel_rfl) ?_ | refine ⟨(by kernel_rfl : confB _ _ _ _ _ = true), ?_⟩ | refine ⟨by (first | omega | (simp only [lens, Int.toNat_natCast, bsz, Nat.zero_mul, Nat.zero_add]; omega)), ?_⟩ | refine .inl ⟨by omega, by omega, ?_⟩ | refine .inr ⟨⟨by (first | omega | (simp only [lens, Int.toNat_natCast, bsz, Nat.zero_mul, Nat.zero_add]; omega)), by (first | omega | (simp only [lens, Int.toNat_natCast, bsz, Nat.zero_mul, Nat.zero_add]; omega))⟩, ?_⟩ | refine .inl ⟨⟨by (first | omega | (simp only [lens, Int.toNat_natCast, bsz, Nat.zero_mul, Nat.zero_add]; omega)), by (first | omega | (simp only [lens, Int.toNat_natCast, bsz, Nat.zero_mul, Nat.zero_add]; omega))⟩, ?_⟩ | refine ⟨rfl, ?_⟩ | refine ⟨congrArg (Value.int _) (by omega), ?_⟩); (conv => whnf))
      | (refine And.intro ?_ ?_; rotate_left; (conv => whnf); rotate_right))
    all_goals first | (simp; done) | (simp [withP]; done) | (rw [List.drop_zero]; refine take_all ?_; simp; done) | (rw [List.drop_zero]; refine take_all ?_; simp; omega)
  | true =>
    rw [hR] at hrt
    obtain ⟨hri, h32, hs1, hs2⟩ := rightW_players hR
    obtain ⟨e1, e2⟩ := bsP_rises hri p.id
    rw [e1, e2] at hsk
    cases hS : soundB p with
    | false =>
      rw [hS] at hso
      have hs : setW w p = (w, 110) := by unfold setW; rw [if_neg (by rw [hR]; simp), if_pos (.inl hS)]
      rw [hs]
      refine Api.of_fin cfg_ok Try.func37 rfl (nt := 60) rfl rfl ?_
      conv => whnf
      repeat' (first
        | exact trivial
        | ((first | refine .inl ⟨in64 (by omega) (by omega), ?_⟩ | refine .inl ⟨inU64 (by omega) (by omega), ?_⟩ | refine .inl ⟨inU8 (by omega) (by omega), ?_⟩); (conv => whnf))
        | ((refine ⟨fun hb => ?_, fun hb => ?_⟩) <;> (try simp only [decide_eq_true_eq, decide_eq_false_iff_not, Int.not_lt, Int.not_le, beq_iff_eq, beq_eq_false_iff_ne, bne_iff_ne, bne_eq_false_iff_eq, ne_eq, Decidable.not_not, Bool.not_eq_true', Bool.not_eq_false', Bool.not_eq_true, Bool.not_eq_false, Int.toNat_natCast, Bool.and_eq_true, Bool.or_eq_true, Bool.and_eq_false_iff, Bool.or_eq_false_iff, List.length_nil, List.length_cons] at hb) <;> (first | (exfalso; omega) | contradiction | (conv => whnf)))
        | ((first | (refine callEv (hwc) [(390001, 150001), (390003, 150003)] rfl ?_ ?_ ?_) | (refine callEvD (hwc) [(390001, 150001), (390003, 150003)] rfl ?_ ?_ ?_)); rotate_left; rotate_left; (conv => whnf); rotate_left; (repeat' (first | exact trivial | (refine ⟨rfl, ?_⟩))); kernel_rfl)
        | ((first | (refine callEv (hsk) [(1, 150001), (3, 150003)] rfl ?_ ?_ ?_) | (refine callEvD (hsk) [(1, 150001), (3, 150003)] rfl ?_ ?_ ?_)); rotate_left; rotate_left; (conv => whnf); rotate_left; (repeat' (first | exact trivial | (refine ⟨rfl, ?_⟩))); kernel_rfl)
        | ((first | (refine callApi (hrt) rfl rfl ?_) | (refine callApiD (hrt) rfl rfl ?_) | (refine callApi (hso) rfl rfl ?_) | (refine callApiD (hso) rfl rfl ?_) | refine Draws.of cfg_ok (by kernel_rfl) ?_ | refine ⟨(by kernel_rfl : confB _ _ _ _ _ = true), ?_⟩ | refine ⟨by (first | omega | (simp only [lens, Int.toNat_natCast, bsz, Nat.zero_mul, Nat.zero_add]; omega)), ?_⟩ | refine .inl ⟨by omega, by omega, ?_⟩ | refine .inr ⟨⟨by (first | omega | (simp only [lens, Int.toNat_natCast, bsz, Nat.zero_mul, Nat.zero_add]; omega)), by (first | omega | (simp only [lens, Int.toNat_natCast, bsz, Nat.zero_mul, Nat.zero_add]; omega))⟩, ?_⟩ | refine .inl ⟨⟨by (first | omega | (simp only [lens, Int.toNat_natCast, bsz, Nat.zero_mul, Nat.zero_add]; omega)), by (first | omega | (simp only [lens, Int.toNat_natCast, bsz, Nat.zero_mul, Nat.zero_add]; omega))⟩, ?_⟩ | refine ⟨rfl, ?_⟩ | refine ⟨congrArg (Value.int _) (by omega), ?_⟩); (conv => whnf))
        | (refine And.intro ?_ ?_; rotate_left; (conv => whnf); rotate_right))
      all_goals first | (simp; done) | (simp [withP]; done) | (rw [List.drop_zero]; refine take_all ?_; simp; done) | (rw [List.drop_zero]; refine take_all ?_; simp; omega)
    | true =>
      rw [hS] at hso
      cases hI : withinW w.size p.x p.y with
      | false =>
        rw [hI] at hwi
        have hs : setW w p = (w, 110) := by unfold setW; rw [if_neg (by rw [hR]; simp), if_pos (.inr hI)]
        rw [hs]
        have hwl := within_own w p.x p.y
        rw [hI] at hwl
        refine Api.of_fin cfg_ok Try.func37 rfl (nt := 60) rfl rfl ?_
        conv => whnf
        repeat' (first
          | exact trivial
          | ((first | refine .inl ⟨in64 (by omega) (by omega), ?_⟩ | refine .inl ⟨inU64 (by omega) (by omega), ?_⟩ | refine .inl ⟨inU8 (by omega) (by omega), ?_⟩); (conv => whnf))
          | ((refine ⟨fun hb => ?_, fun hb => ?_⟩) <;> (try simp only [decide_eq_true_eq, decide_eq_false_iff_not, Int.not_lt, Int.not_le, beq_iff_eq, beq_eq_false_iff_ne, bne_iff_ne, bne_eq_false_iff_eq, ne_eq, Decidable.not_not, Bool.not_eq_true', Bool.not_eq_false', Bool.not_eq_true, Bool.not_eq_false, Int.toNat_natCast, Bool.and_eq_true, Bool.or_eq_true, Bool.and_eq_false_iff, Bool.or_eq_false_iff, List.length_nil, List.length_cons] at hb) <;> (first | (exfalso; omega) | contradiction | (conv => whnf)))
          | ((first | (refine callEv (hwc) [(390001, 150001), (390003, 150003)] rfl ?_ ?_ ?_) | (refine callEvD (hwc) [(390001, 150001), (390003, 150003)] rfl ?_ ?_ ?_)); rotate_left; rotate_left; (conv => whnf); rotate_left; (repeat' (first | exact trivial | (refine ⟨rfl, ?_⟩))); kernel_rfl)
          | ((first | (refine callEv (hsk) [(1, 150001), (3, 150003)] rfl ?_ ?_ ?_) | (refine callEvD (hsk) [(1, 150001), (3, 150003)] rfl ?_ ?_ ?_)); rotate_left; rotate_left; (conv => whnf); rotate_left; (repeat' (first | exact trivial | (refine ⟨rfl, ?_⟩))); kernel_rfl)
          | ((first | (refine callEv (hwl) [(1, 150001), (3, 150003)] rfl ?_ ?_ ?_) | (refine callEvD (hwl) [(1, 150001), (3, 150003)] rfl ?_ ?_ ?_)); rotate_left; rotate_left; (conv => whnf); rotate_left; (repeat' (first | exact trivial | (refine ⟨rfl, ?_⟩))); kernel_rfl)
          | ((first | (refine callApi (hrt) rfl rfl ?_) | (refine callApiD (hrt) rfl rfl ?_) | (refine callApi (hso) rfl rfl ?_) | (refine callApiD (hso) rfl rfl ?_) | refine Draws.of cfg_ok (by kernel_rfl) ?_ | refine ⟨(by kernel_rfl : confB _ _ _ _ _ = true), ?_⟩ | refine ⟨by (first | omega | (simp only [lens, Int.toNat_natCast, bsz, Nat.zero_mul, Nat.zero_add]; omega)), ?_⟩ | refine .inl ⟨by omega, by omega, ?_⟩ | refine .inr ⟨⟨by (first | omega | (simp only [lens, Int.toNat_natCast, bsz, Nat.zero_mul, Nat.zero_add]; omega)), by (first | omega | (simp only [lens, Int.toNat_natCast, bsz, Nat.zero_mul, Nat.zero_add]; omega))⟩, ?_⟩ | refine .inl ⟨⟨by (first | omega | (simp only [lens, Int.toNat_natCast, bsz, Nat.zero_mul, Nat.zero_add]; omega)), by (first | omega | (simp only [lens, Int.toNat_natCast, bsz, Nat.zero_mul, Nat.zero_add]; omega))⟩, ?_⟩ | refine ⟨rfl, ?_⟩ | refine ⟨congrArg (Value.int _) (by omega), ?_⟩); (conv => whnf))
          | (refine And.intro ?_ ?_; rotate_left; (conv => whnf); rotate_right))
        all_goals first | (simp; done) | (simp [withP]; done) | (rw [List.drop_zero]; refine take_all ?_; simp; done) | (rw [List.drop_zero]; refine take_all ?_; simp; omega)
      | true =>
        have hwl := within_own w p.x p.y
        rw [hI] at hwl
        have hal := alone_api p hp
        have hle := lbK_le pid p.id w.players
        cases hT : (getK pid w.players p.id).isSome with
        | true =>
          rw [hT] at hsk
          have hs : setW w p = (withP w (w.players.set (lbK pid p.id w.players) p), 0) := by unfold setW; rw [if_neg (by rw [hR]; simp), if_neg (by rw [hS, hI]; simp), if_pos hT]
          rw [hs]
          have hlt : lbK pid p.id w.players < w.players.length := by
            obtain ⟨b, hb⟩ := Option.isSome_iff_exists.1 hT
            exact (lbK_lt hri hb).1
          generalize lbK pid p.id w.players = at_ at *
          refine Api.of_fin cfg_ok Try.func37 rfl (nt := 60) rfl rfl ?_
          conv => whnf
          repeat' (first
            | exact trivial
            | ((first | refine .inl ⟨in64 (by omega) (by omega), ?_⟩ | refine .inl ⟨inU64 (by omega) (by omega), ?_⟩ | refine .inl ⟨inU8 (by omega) (by omega), ?_⟩); (conv => whnf))
            | ((refine ⟨fun hb => ?_, fun hb => ?_⟩) <;> (try simp only [decide_eq_true_eq, decide_eq_false_iff_not, Int.not_lt, Int.not_le, beq_iff_eq, beq_eq_false_iff_ne, bne_iff_ne, bne_eq_false_iff_eq, ne_eq, Decidable.not_not, Bool.not_eq_true', Bool.not_eq_false', Bool.not_eq_true, Bool.not_eq_false, Int.toNat_natCast, Bool.and_eq_true, Bool.or_eq_true, Bool.and_eq_false_iff, Bool.or_eq_false_iff, List.length_nil, List.length_cons] at hb) <;> (first | (exfalso; omega) | contradiction | (conv => whnf)))
            | ((first | (refine callEv (hwc) [(390001, 150001), (390003, 150003)] rfl ?_ ?_ ?_) | (refine callEvD (hwc) [(390001, 150001), (390003, 150003)] rfl ?_ ?_ ?_)); rotate_left; rotate_left; (conv => whnf); rotate_left; (repeat' (first | exact trivial | (refine ⟨rfl, ?_⟩))); kernel_rfl)
            | ((first | (refine callEv (hsk) [(1, 150001), (3, 150003)] rfl ?_ ?_ ?_) | (refine callEvD (hsk) [(1, 150001), (3, 150003)] rfl ?_ ?_ ?_)); rotate_left; rotate_left; (conv => whnf); rotate_left; (repeat' (first | exact trivial | (refine ⟨rfl, ?_⟩))); kernel_rfl)
            | ((first | (refine callEv (hwl) [(1, 150001), (3, 150003)] rfl ?_ ?_ ?_) | (refine callEvD (hwl) [(1, 150001), (3, 150003)] rfl ?_ ?_ ?_)); rotate_left; rotate_left; (conv => whnf); rotate_left; (repeat' (first | exact trivial | (refine ⟨rfl, ?_⟩))); kernel_rfl)
            | ((first | (refine callApi (hrt) rfl rfl ?_) | (refine callApiD (hrt) rfl rfl ?_) | (refine callApi (hso) rfl rfl ?_) | (refine callApiD (hso) rfl rfl ?_) | (refine callApi (hal) rfl rfl ?_) | (refine callApiD (hal) rfl rfl ?_) | refine Draws.of cfg_ok (by kernel_rfl) ?_ | refine ⟨(by kernel_rfl : confB _ _ _ _ _ = true), ?_⟩ | refine ⟨by (first | omega | (simp only [lens, Int.toNat_natCast, bsz, Nat.zero_mul, Nat.zero_add]; omega)), ?_⟩ | refine .inl ⟨by omega, by omega, ?_⟩ | refine .inr ⟨⟨by (first | omega | (simp only [lens, Int.toNat_natCast, bsz, Nat.zero_mul, Nat.zero_add]; omega)), by (first | omega | (simp only [lens, Int.toNat_natCast, bsz, Nat.zero_mul, Nat.zero_add]; omega))⟩, ?_⟩ | refine .inl ⟨⟨by (first | omega | (simp only [lens, Int.toNat_natCast, bsz, Nat.zero_mul, Nat.zero_add]; omega)), by (first | omega | (simp only [lens, Int.toNat_natCast, bsz, Nat.zero_mul, Nat.zero_add]; omega))⟩, ?_⟩ | refine ⟨rfl, ?_⟩ | refine ⟨congrArg (Value.int _) (by omega), ?_⟩); (conv => whnf))
            | (refine And.intro ?_ ?_; rotate_left; (conv => whnf); rotate_right))
          all_goals first | (simp; done) | (simp [withP]; done) | (rw [List.drop_zero]; refine take_all ?_; simp; done) | (rw [List.drop_zero]; refine take_all ?_; simp; omega)
        | false =>
          rw [hT] at hsk
          by_cases h32' : 32 ≤ w.players.length
          · have hs : setW w p = (w, 3) := by unfold setW; rw [if_neg (by rw [hR]; simp), if_neg (by rw [hS, hI]; simp), if_neg (by rw [hT]; simp), if_pos h32']
            rw [hs]
            generalize lbK pid p.id w.players = at_ at *
            refine Api.of_fin cfg_ok Try.func37 rfl (nt := 60) rfl rfl ?_
            conv => whnf
            repeat' (first
              | exact trivial
              | ((first | refine .inl ⟨in64 (by omega) (by omega), ?_⟩ | refine .inl ⟨inU64 (by omega) (by omega), ?_⟩ | refine .inl ⟨inU8 (by omega) (by omega), ?_⟩); (conv => whnf))
              | ((refine ⟨fun hb => ?_, fun hb => ?_⟩) <;> (try simp only [decide_eq_true_eq, decide_eq_false_iff_not, Int.not_lt, Int.not_le, beq_iff_eq, beq_eq_false_iff_ne, bne_iff_ne, bne_eq_false_iff_eq, ne_eq, Decidable.not_not, Bool.not_eq_true', Bool.not_eq_false', Bool.not_eq_true, Bool.not_eq_false, Int.toNat_natCast, Bool.and_eq_true, Bool.or_eq_true, Bool.and_eq_false_iff, Bool.or_eq_false_iff, List.length_nil, List.length_cons] at hb) <;> (first | (exfalso; omega) | contradiction | (conv => whnf)))
              | ((first | (refine callEv (hwc) [(390001, 150001), (390003, 150003)] rfl ?_ ?_ ?_) | (refine callEvD (hwc) [(390001, 150001), (390003, 150003)] rfl ?_ ?_ ?_)); rotate_left; rotate_left; (conv => whnf); rotate_left; (repeat' (first | exact trivial | (refine ⟨rfl, ?_⟩))); kernel_rfl)
              | ((first | (refine callEv (hsk) [(1, 150001), (3, 150003)] rfl ?_ ?_ ?_) | (refine callEvD (hsk) [(1, 150001), (3, 150003)] rfl ?_ ?_ ?_)); rotate_left; rotate_left; (conv => whnf); rotate_left; (repeat' (first | exact trivial | (refine ⟨rfl, ?_⟩))); kernel_rfl)
              | ((first | (refine callEv (hwl) [(1, 150001), (3, 150003)] rfl ?_ ?_ ?_) | (refine callEvD (hwl) [(1, 150001), (3, 150003)] rfl ?_ ?_ ?_)); rotate_left; rotate_left; (conv => whnf); rotate_left; (repeat' (first | exact trivial | (refine ⟨rfl, ?_⟩))); kernel_rfl)
              | ((first | (refine callApi (hrt) rfl rfl ?_) | (refine callApiD (hrt) rfl rfl ?_) | (refine callApi (hso) rfl rfl ?_) | (refine callApiD (hso) rfl rfl ?_) | refine Draws.of cfg_ok (by kernel_rfl) ?_ | refine ⟨(by kernel_rfl : confB _ _ _ _ _ = true), ?_⟩ | refine ⟨by (first | omega | (simp only [lens, Int.toNat_natCast, bsz, Nat.zero_mul, Nat.zero_add]; omega)), ?_⟩ | refine .inl ⟨by omega, by omega, ?_⟩ | refine .inr ⟨⟨by (first | omega | (simp only [lens, Int.toNat_natCast, bsz, Nat.zero_mul, Nat.zero_add]; omega)), by (first | omega | (simp only [lens, Int.toNat_natCast, bsz, Nat.zero_mul, Nat.zero_add]; omega))⟩, ?_⟩ | refine .inl ⟨⟨by (first | omega | (simp only [lens, Int.toNat_natCast, bsz, Nat.zero_mul, Nat.zero_add]; omega)), by (first | omega | (simp only [lens, Int.toNat_natCast, bsz, Nat.zero_mul, Nat.zero_add]; omega))⟩, ?_⟩ | refine ⟨rfl, ?_⟩ | refine ⟨congrArg (Value.int _) (by omega), ?_⟩); (conv => whnf))
              | (refine And.intro ?_ ?_; rotate_left; (conv => whnf); rotate_right))
            all_goals first | (simp; done) | (simp [withP]; done) | (rw [List.drop_zero]; refine take_all ?_; simp; done) | (rw [List.drop_zero]; refine take_all ?_; simp; omega)
          · have hs : setW w p = (withP w (w.players.take (lbK pid p.id w.players) ++ p :: w.players.drop (lbK pid p.id w.players)), 0) := by unfold setW; rw [if_neg (by rw [hR]; simp), if_neg (by rw [hS, hI]; simp), if_neg (by rw [hT]; simp), if_neg h32']
            rw [hs]
            generalize lbK pid p.id w.players = at_ at *
            refine Api.of_fin cfg_ok Try.func37 rfl (nt := 60) rfl rfl ?_
            conv => whnf
            repeat' (first
              | exact trivial
              | ((first | refine .inl ⟨in64 (by omega) (by omega), ?_⟩ | refine .inl ⟨inU64 (by omega) (by omega), ?_⟩ | refine .inl ⟨inU8 (by omega) (by omega), ?_⟩); (conv => whnf))
              | ((refine ⟨fun hb => ?_, fun hb => ?_⟩) <;> (try simp only [decide_eq_true_eq, decide_eq_false_iff_not, Int.not_lt, Int.not_le, beq_iff_eq, beq_eq_false_iff_ne, bne_iff_ne, bne_eq_false_iff_eq, ne_eq, Decidable.not_not, Bool.not_eq_true', Bool.not_eq_false', Bool.not_eq_true, Bool.not_eq_false, Int.toNat_natCast, Bool.and_eq_true, Bool.or_eq_true, Bool.and_eq_false_iff, Bool.or_eq_false_iff, List.length_nil, List.length_cons] at hb) <;> (first | (exfalso; omega) | contradiction | (conv => whnf)))
              | ((first | (refine callEv (hwc) [(390001, 150001), (390003, 150003)] rfl ?_ ?_ ?_) | (refine callEvD (hwc) [(390001, 150001), (390003, 150003)] rfl ?_ ?_ ?_)); rotate_left; rotate_left; (conv => whnf); rotate_left; (repeat' (first | exact trivial | (refine ⟨rfl, ?_⟩))); kernel_rfl)
              | ((first | (refine callEv (hsk) [(1, 150001), (3, 150003)] rfl ?_ ?_ ?_) | (refine callEvD (hsk) [(1, 150001), (3, 150003)] rfl ?_ ?_ ?_)); rotate_left; rotate_left; (conv => whnf); rotate_left; (repeat' (first | exact trivial | (refine ⟨rfl, ?_⟩))); kernel_rfl)
              | ((first | (refine callEv (hwl) [(1, 150001), (3, 150003)] rfl ?_ ?_ ?_) | (refine callEvD (hwl) [(1, 150001), (3, 150003)] rfl ?_ ?_ ?_)); rotate_left; rotate_left; (conv => whnf); rotate_left; (repeat' (first | exact trivial | (refine ⟨rfl, ?_⟩))); kernel_rfl)
              | ((first | (refine isE 56 ?_; refine callEv (insert_evnP w.players _ at_ p rfl hle (by omega)) [(1, 150003), (3, 117), (390001, 150007)] rfl ?_ ?_ ?_) | (refine isD 56 ?_; refine callEvD (insert_evnP w.players _ at_ p rfl hle (by omega)) [(1, 150003), (3, 117), (390001, 150007)] rfl ?_ ?_ ?_)); rotate_left; rotate_left; (conv => whnf); rotate_left; (repeat' (first | exact trivial | (refine ⟨rfl, ?_⟩))); kernel_rfl)
              | ((first | (refine callApi (hrt) rfl rfl ?_) | (refine callApiD (hrt) rfl rfl ?_) | (refine callApi (hso) rfl rfl ?_) | (refine callApiD (hso) rfl rfl ?_) | (refine callApi (hal) rfl rfl ?_) | (refine callApiD (hal) rfl rfl ?_) | refine Draws.of cfg_ok (by kernel_rfl) ?_ | refine ⟨(by kernel_rfl : confB _ _ _ _ _ = true), ?_⟩ | refine ⟨by (first | omega | (simp only [lens, Int.toNat_natCast, bsz, Nat.zero_mul, Nat.zero_add]; omega)), ?_⟩ | refine .inl ⟨by omega, by omega, ?_⟩ | refine .inr ⟨⟨by (first | omega | (simp only [lens, Int.toNat_natCast, bsz, Nat.zero_mul, Nat.zero_add]; omega)), by (first | omega | (simp only [lens, Int.toNat_natCast, bsz, Nat.zero_mul, Nat.zero_add]; omega))⟩, ?_⟩ | refine .inl ⟨⟨by (first | omega | (simp only [lens, Int.toNat_natCast, bsz, Nat.zero_mul, Nat.zero_add]; omega)), by (first | omega | (simp only [lens, Int.toNat_natCast, bsz, Nat.zero_mul, Nat.zero_add]; omega))⟩, ?_⟩ | refine ⟨rfl, ?_⟩ | refine ⟨congrArg (Value.int _) (by omega), ?_⟩); (conv => whnf))
              | (refine And.intro ?_ ?_; rotate_left; (conv => whnf); rotate_right))
            all_goals first | (simp; done) | (simp [withP]; done) | (rw [List.drop_zero]; refine take_all ?_; simp; done) | (rw [List.drop_zero]; refine take_all ?_; simp; omega)

end Go.Proofs.Ytdbnihckckekcaa
