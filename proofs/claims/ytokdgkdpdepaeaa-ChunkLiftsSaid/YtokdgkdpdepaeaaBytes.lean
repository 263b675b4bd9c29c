
/- chunk.Bytes. -/
import Derived.Test.YtokdgkdpdepaeaaUint
set_option linter.unusedSimpArgs false
set_option linter.unusedVariables false
namespace Go.Proofs.Ytokdgkdpdepaeaa
open Go Go.RowKit Eng

theorem uint_evz (l : List (El .u8)) (len : Nat) (z : Int) (hlen : len = l.length) (h0 : 0 ≤ z) (hz : z < 9223372036854775808) (hl : l.length + 10 ≤ 140737488355328) : Ev1 Try.prog 47 [.own .u8 1 0 len none, .lit (.int .u64 z)] [(1, .row .u8 l)] (.own .u8 390001 0 (len + (uintL z.toNat).length) none) [(390001, .row .u8 (l ++ uintL z.toNat))] := by
  obtain ⟨n, rfl⟩ : ∃ n : Nat, z = (n : Int) := ⟨z.toNat, by omega⟩
  subst hlen
  exact uint_ev l n (by omega) hl

def okN (z : Int) : Prop := 0 ≤ z ∧ z < 9223372036854775808
theorem okN.le {z : Int} (h : okN z) : z ≤ 18446744073709551615 := by have := h.2; omega

def putL (ns : List Int) : List Int := ns.flatMap fun z => uintL z.toNat
theorem putL_len (ns : List Int) : (putL ns).length ≤ ns.length * 10 := by
  induction ns with
  | nil => simp [putL]
  | cons a r ih => simp only [putL, List.flatMap_cons, List.length_append, List.length_cons] at *; have := uintF_len 9 a.toNat; unfold uintL at *; omega
theorem putL_take {ns : List Int} {k : Nat} (h : k < ns.length) : putL (ns.take (k + 1)) = putL (ns.take k) ++ uintL (elt .i64 ns k).toNat := by
  have := elt_get .i64 ns k h
  rw [List.take_add_one, this]
  simp [putL]

set_option maxRecDepth 100000 in
set_option maxHeartbeats 4000000 in
theorem put_ev (l : List (El .u8)) (len : Nat) (ns : List (El .i64)) (n : Nat) (hn : n = ns.length) (hlen : len = l.length) (hns : ∀ z ∈ ns, okN z) (hl : l.length + ns.length * 10 + 10 ≤ 140737488355328) :
    Ev1 Try.prog 46 [.own .i64 3 0 n (some n), .ptr 0 0] [(0, .box [.own .u8 1 0 len none]), (1, .row .u8 l), (3, .row .i64 ns)] (.tup []) [(0, .box [.own .u8 390001 0 (len + (putL ns).length) none]), (390001, .row .u8 (l ++ putL ns))] := by
  subst hn
  subst hlen
  refine Ev1.of_fin cfg_ok Try.func46 rfl (nt := 14) rfl rfl rfl ?_
  conv => whnf
  refine Runs.loopS cfg_ok (σ := Nat) [1, 5, 6, 7] (fun k => [.ptr 0 0, .own .i64 3 0 ns.length none, i64 ns.length, i64 k]) (fun k => [(0, .box [.own .u8 350001 0 (l.length + (putL (ns.take k)).length) none]), (350001, .row .u8 (l ++ putL (ns.take k))), (3, .row .i64 ns)])
    (fun k => k ≤ ns.length) (fun k => ns.length - k) 0 (by omega) ?_ ?_
  · conv => whnf
    repeat' (first
      | exact trivial
      | ((first | refine .inl ⟨in64 (by omega) (by omega), ?_⟩ | refine .inl ⟨inU64 (by omega) (by omega), ?_⟩ | refine .inl ⟨inU8 (by omega) (by omega), ?_⟩); (conv => whnf))
      | ((refine ⟨fun hb => ?_, fun hb => ?_⟩) <;> (try simp only [decide_eq_true_eq, decide_eq_false_iff_not, Int.not_lt, Int.not_le, beq_iff_eq, beq_eq_false_iff_ne, bne_iff_ne, bne_eq_false_iff_eq, ne_eq, Decidable.not_not, Bool.not_eq_true', Bool.not_eq_false', Bool.not_eq_true, Bool.not_eq_false, Int.toNat_natCast, Bool.and_eq_true, Bool.or_eq_true, Bool.and_eq_false_iff, Bool.or_eq_false_iff, List.length_nil, List.length_cons] at hb) <;> (first | (exfalso; omega) | contradiction | (conv => whnf)))
      | ((first | refine Draws.of cfg_ok (by kernel_rfl) ?_ | refine ⟨(by kernel_rfl : confB _ _ _ _ _ = true), ?_⟩ | refine ⟨by (first | omega | (simp only [lens, Int.toNat_natCast, bsz, Nat.zero_mul, Nat.zero_add]; omega)), ?_⟩ | refine .inl ⟨by omega, by omega, ?_⟩ | refine .inr ⟨⟨by (first | omega | (simp only [lens, Int.toNat_natCast, bsz, Nat.zero_mul, Nat.zero_add]; omega)), by (first | omega | (simp only [lens, Int.toNat_natCast, bsz, Nat.zero_mul, Nat.zero_add]; omega))⟩, ?_⟩ | refine .inl ⟨⟨by (first | omega | (simp only [lens, Int.toNat_natCast, bsz, Nat.zero_mul, Nat.zero_add]; omega)), by (first | omega | (simp only [lens, Int.toNat_natCast, bsz, Nat.zero_mul, Nat.zero_add]; omega))⟩, ?_⟩ | refine ⟨rfl, ?_⟩ | refine ⟨congrArg (Value.int _) (by omega), ?_⟩); (conv => whnf))
      | (refine And.intro ?_ ?_; rotate_left; (conv => whnf); rotate_right))
    all_goals first | rfl | (simp [putL]; done)
  · intro k hk
    by_cases hlt : k < ns.length
    · have hz := hns _ (elt_mem (t := .i64) hlt)
      have hz2 := hz.le
      have hpl := putL_len (ns.take k)
      rw [List.length_take] at hpl
      conv => whnf
      repeat' (first
        | exact trivial
        | ((first | refine .inl ⟨in64 (by omega) (by omega), ?_⟩ | refine .inl ⟨inU64 (by omega) (by omega), ?_⟩ | refine .inl ⟨inU8 (by omega) (by omega), ?_⟩); (conv => whnf))
        | ((refine ⟨fun hb => ?_, fun hb => ?_⟩) <;> (try simp only [decide_eq_true_eq, decide_eq_false_iff_not, Int.not_lt, Int.not_le, beq_iff_eq, beq_eq_false_iff_ne, bne_iff_ne, bne_eq_false_iff_eq, ne_eq, Decidable.not_not, Bool.not_eq_true', Bool.not_eq_false', Bool.not_eq_true, Bool.not_eq_false, Int.toNat_natCast, Bool.and_eq_true, Bool.or_eq_true, Bool.and_eq_false_iff, Bool.or_eq_false_iff, List.length_nil, List.length_cons] at hb) <;> (first | (exfalso; omega) | contradiction | (conv => whnf)))
        | ((first | (refine isE 47 ?_; refine callEv (uint_evz (l ++ putL (ns.take k)) _ (elt .i64 ns k) (by rw [List.length_append]) hz.1 hz.2 (by rw [List.length_append]; omega)) [(1, 350001), (390001, 350003)] rfl ?_ ?_ ?_) | (refine isD 47 ?_; refine callEvD (uint_evz (l ++ putL (ns.take k)) _ (elt .i64 ns k) (by rw [List.length_append]) hz.1 hz.2 (by rw [List.length_append]; omega)) [(1, 350001), (390001, 350003)] rfl ?_ ?_ ?_)); rotate_left; rotate_left; (conv => whnf); rotate_left; (repeat' (first | exact trivial | (refine ⟨rfl, ?_⟩))); kernel_rfl)
        | (refine .inl ⟨inU64 hz.1 hz2, ?_⟩; (conv => whnf))
        | ((first | refine Draws.of cfg_ok (by kernel_rfl) ?_ | refine ⟨(by kernel_rfl : confB _ _ _ _ _ = true), ?_⟩ | refine ⟨by (first | omega | (simp only [lens, Int.toNat_natCast, bsz, Nat.zero_mul, Nat.zero_add]; omega)), ?_⟩ | refine .inl ⟨by omega, by omega, ?_⟩ | refine .inr ⟨⟨by (first | omega | (simp only [lens, Int.toNat_natCast, bsz, Nat.zero_mul, Nat.zero_add]; omega)), by (first | omega | (simp only [lens, Int.toNat_natCast, bsz, Nat.zero_mul, Nat.zero_add]; omega))⟩, ?_⟩ | refine .inl ⟨⟨by (first | omega | (simp only [lens, Int.toNat_natCast, bsz, Nat.zero_mul, Nat.zero_add]; omega)), by (first | omega | (simp only [lens, Int.toNat_natCast, bsz, Nat.zero_mul, Nat.zero_add]; omega))⟩, ?_⟩ | refine ⟨rfl, ?_⟩ | refine ⟨congrArg (Value.int _) (by omega), ?_⟩); (conv => whnf))
        | (refine And.intro ?_ ?_; rotate_left; (conv => whnf); rotate_right))
      refine .to (k + 1) hlt (by omega) ?_
      have hpt := putL_take hlt
      conv => whnf
      repeat' (first
        | exact trivial
        | ((first | refine .inl ⟨in64 (by omega) (by omega), ?_⟩ | refine .inl ⟨inU64 (by omega) (by omega), ?_⟩ | refine .inl ⟨inU8 (by omega) (by omega), ?_⟩); (conv => whnf))
        | ((refine ⟨fun hb => ?_, fun hb => ?_⟩) <;> (try simp only [decide_eq_true_eq, decide_eq_false_iff_not, Int.not_lt, Int.not_le, beq_iff_eq, beq_eq_false_iff_ne, bne_iff_ne, bne_eq_false_iff_eq, ne_eq, Decidable.not_not, Bool.not_eq_true', Bool.not_eq_false', Bool.not_eq_true, Bool.not_eq_false, Int.toNat_natCast, Bool.and_eq_true, Bool.or_eq_true, Bool.and_eq_false_iff, Bool.or_eq_false_iff, List.length_nil, List.length_cons] at hb) <;> (first | (exfalso; omega) | contradiction | (conv => whnf)))
        | ((first | refine Draws.of cfg_ok (by kernel_rfl) ?_ | refine ⟨(by kernel_rfl : confB _ _ _ _ _ = true), ?_⟩ | refine ⟨by (first | omega | (simp only [lens, Int.toNat_natCast, bsz, Nat.zero_mul, Nat.zero_add]; omega)), ?_⟩ | refine .inl ⟨by omega, by omega, ?_⟩ | refine .inr ⟨⟨by (first | omega | (simp only [lens, Int.toNat_natCast, bsz, Nat.zero_mul, Nat.zero_add]; omega)), by (first | omega | (simp only [lens, Int.toNat_natCast, bsz, Nat.zero_mul, Nat.zero_add]; omega))⟩, ?_⟩ | refine .inl ⟨⟨by (first | omega | (simp only [lens, Int.toNat_natCast, bsz, Nat.zero_mul, Nat.zero_add]; omega)), by (first | omega | (simp only [lens, Int.toNat_natCast, bsz, Nat.zero_mul, Nat.zero_add]; omega))⟩, ?_⟩ | refine ⟨rfl, ?_⟩ | refine ⟨congrArg (Value.int _) (by omega), ?_⟩); (conv => whnf))
        | (refine And.intro ?_ ?_; rotate_left; (conv => whnf); rotate_right))
      all_goals (try rw [hpt])
      · exact List.take_length
      · rw [List.length_append, Nat.add_assoc]
      · rw [List.append_assoc]; exact List.take_of_length_le (by simp only [List.length_append]; omega)
    · obtain rfl : k = ns.length := by omega
      rw [List.take_length]
      conv => whnf
      repeat' (first
        | exact trivial
        | ((first | refine .inl ⟨in64 (by omega) (by omega), ?_⟩ | refine .inl ⟨inU64 (by omega) (by omega), ?_⟩ | refine .inl ⟨inU8 (by omega) (by omega), ?_⟩); (conv => whnf))
        | ((refine ⟨fun hb => ?_, fun hb => ?_⟩) <;> (try simp only [decide_eq_true_eq, decide_eq_false_iff_not, Int.not_lt, Int.not_le, beq_iff_eq, beq_eq_false_iff_ne, bne_iff_ne, bne_eq_false_iff_eq, ne_eq, Decidable.not_not, Bool.not_eq_true', Bool.not_eq_false', Bool.not_eq_true, Bool.not_eq_false, Int.toNat_natCast, Bool.and_eq_true, Bool.or_eq_true, Bool.and_eq_false_iff, Bool.or_eq_false_iff, List.length_nil, List.length_cons] at hb) <;> (first | (exfalso; omega) | contradiction | (conv => whnf)))
        | ((first | refine Draws.of cfg_ok (by kernel_rfl) ?_ | refine ⟨(by kernel_rfl : confB _ _ _ _ _ = true), ?_⟩ | refine ⟨by (first | omega | (simp only [lens, Int.toNat_natCast, bsz, Nat.zero_mul, Nat.zero_add]; omega)), ?_⟩ | refine .inl ⟨by omega, by omega, ?_⟩ | refine .inr ⟨⟨by (first | omega | (simp only [lens, Int.toNat_natCast, bsz, Nat.zero_mul, Nat.zero_add]; omega)), by (first | omega | (simp only [lens, Int.toNat_natCast, bsz, Nat.zero_mul, Nat.zero_add]; omega))⟩, ?_⟩ | refine .inl ⟨⟨by (first | omega | (simp only [lens, Int.toNat_natCast, bsz, Nat.zero_mul, Nat.zero_add]; omega)), by (first | omega | (simp only [lens, Int.toNat_natCast, bsz, Nat.zero_mul, Nat.zero_add]; omega))⟩, ?_⟩ | refine ⟨rfl, ?_⟩ | refine ⟨congrArg (Value.int _) (by omega), ?_⟩); (conv => whnf))
        | (refine And.intro ?_ ?_; rotate_left; (conv => whnf); rotate_right))
      all_goals first | rfl | exact List.take_length | (refine List.take_of_length_le ?_; first | exact Nat.le_refl _ | (rw [List.length_append]; exact Nat.le_refl _))

theorem put_api_len {l : List Int} {ns : List Int} : (l ++ putL ns).length = l.length + (putL ns).length := List.length_append

set_option maxRecDepth 100000 in
set_option maxHeartbeats 4000000 in
theorem put_nil (ns : List (El .i64)) (n : Nat) (hn : n = ns.length) (hns : ∀ z ∈ ns, okN z) (hl : ns.length * 10 + 10 ≤ 140737488355328) :
    Ev1 Try.prog 46 [.own .i64 3 0 n (some n), .ptr 0 0] [(0, .box [.lit (.slice none 0 0)]), (3, .row .i64 ns)] (.tup []) [(0, .box [.own .u8 390001 0 (putL ns).length none]), (390001, .row .u8 (putL ns))] := by
  subst hn
  refine Ev1.of_fin cfg_ok Try.func46 rfl (nt := 14) rfl rfl rfl ?_
  conv => whnf
  refine Runs.loopS cfg_ok (σ := Nat) [1, 5, 6, 7] (fun k => [.ptr 0 0, .own .i64 3 0 ns.length none, i64 ns.length, i64 k]) (fun k => [(0, .box [.own .u8 350001 0 (putL (ns.take k)).length none]), (350001, .row .u8 (putL (ns.take k))), (3, .row .i64 ns)])
    (fun k => k ≤ ns.length) (fun k => ns.length - k) 0 (by omega) ?_ ?_
  · conv => whnf
    repeat' (first
      | exact trivial
      | ((first | refine .inl ⟨in64 (by omega) (by omega), ?_⟩ | refine .inl ⟨inU64 (by omega) (by omega), ?_⟩ | refine .inl ⟨inU8 (by omega) (by omega), ?_⟩); (conv => whnf))
      | ((refine ⟨fun hb => ?_, fun hb => ?_⟩) <;> (try simp only [decide_eq_true_eq, decide_eq_false_iff_not, Int.not_lt, Int.not_le, beq_iff_eq, beq_eq_false_iff_ne, bne_iff_ne, bne_eq_false_iff_eq, ne_eq, Decidable.not_not, Bool.not_eq_true', Bool.not_eq_false', Bool.not_eq_true, Bool.not_eq_false, Int.toNat_natCast, Bool.and_eq_true, Bool.or_eq_true, Bool.and_eq_false_iff, Bool.or_eq_false_iff, List.length_nil, List.length_cons] at hb) <;> (first | (exfalso; omega) | contradiction | (conv => whnf)))
      | ((first | refine Draws.of cfg_ok (by kernel_rfl) ?_ | refine ⟨(by kernel_rfl : confB _ _ _ _ _ = true), ?_⟩ | refine ⟨by (first | omega | (simp only [lens, Int.toNat_natCast, bsz, Nat.zero_mul, Nat.zero_add]; omega)), ?_⟩ | refine .inl ⟨by omega, by omega, ?_⟩ | refine .inr ⟨⟨by (first | omega | (simp only [lens, Int.toNat_natCast, bsz, Nat.zero_mul, Nat.zero_add]; omega)), by (first | omega | (simp only [lens, Int.toNat_natCast, bsz, Nat.zero_mul, Nat.zero_add]; omega))⟩, ?_⟩ | refine .inl ⟨⟨by (first | omega | (simp only [lens, Int.toNat_natCast, bsz, Nat.zero_mul, Nat.zero_add]; omega)), by (first | omega | (simp only [lens, Int.toNat_natCast, bsz, Nat.zero_mul, Nat.zero_add]; omega))⟩, ?_⟩ | refine ⟨rfl, ?_⟩ | refine ⟨congrArg (Value.int _) (by omega), ?_⟩); (conv => whnf))
      | (refine And.intro ?_ ?_; rotate_left; (conv => whnf); rotate_right))
    all_goals first | rfl | (simp [putL]; done)
  · intro k hk
    by_cases hlt : k < ns.length
    · have hz := hns _ (elt_mem (t := .i64) hlt)
      have hz2 := hz.le
      have hpl := putL_len (ns.take k)
      rw [List.length_take] at hpl
      conv => whnf
      repeat' (first
        | exact trivial
        | ((first | refine .inl ⟨in64 (by omega) (by omega), ?_⟩ | refine .inl ⟨inU64 (by omega) (by omega), ?_⟩ | refine .inl ⟨inU8 (by omega) (by omega), ?_⟩); (conv => whnf))
        | ((refine ⟨fun hb => ?_, fun hb => ?_⟩) <;> (try simp only [decide_eq_true_eq, decide_eq_false_iff_not, Int.not_lt, Int.not_le, beq_iff_eq, beq_eq_false_iff_ne, bne_iff_ne, bne_eq_false_iff_eq, ne_eq, Decidable.not_not, Bool.not_eq_true', Bool.not_eq_false', Bool.not_eq_true, Bool.not_eq_false, Int.toNat_natCast, Bool.and_eq_true, Bool.or_eq_true, Bool.and_eq_false_iff, Bool.or_eq_false_iff, List.length_nil, List.length_cons] at hb) <;> (first | (exfalso; omega) | contradiction | (conv => whnf)))
        | ((first | (refine isE 47 ?_; refine callEv (uint_evz (putL (ns.take k)) _ (elt .i64 ns k) rfl hz.1 hz.2 (by omega)) [(1, 350001), (390001, 350003)] rfl ?_ ?_ ?_) | (refine isD 47 ?_; refine callEvD (uint_evz (putL (ns.take k)) _ (elt .i64 ns k) rfl hz.1 hz.2 (by omega)) [(1, 350001), (390001, 350003)] rfl ?_ ?_ ?_)); rotate_left; rotate_left; (conv => whnf); rotate_left; (repeat' (first | exact trivial | (refine ⟨rfl, ?_⟩))); kernel_rfl)
        | (refine .inl ⟨inU64 hz.1 hz2, ?_⟩; (conv => whnf))
        | ((first | refine Draws.of cfg_ok (by kernel_rfl) ?_ | refine ⟨(by kernel_rfl : confB _ _ _ _ _ = true), ?_⟩ | refine ⟨by (first | omega | (simp only [lens, Int.toNat_natCast, bsz, Nat.zero_mul, Nat.zero_add]; omega)), ?_⟩ | refine .inl ⟨by omega, by omega, ?_⟩ | refine .inr ⟨⟨by (first | omega | (simp only [lens, Int.toNat_natCast, bsz, Nat.zero_mul, Nat.zero_add]; omega)), by (first | omega | (simp only [lens, Int.toNat_natCast, bsz, Nat.zero_mul, Nat.zero_add]; omega))⟩, ?_⟩ | refine .inl ⟨⟨by (first | omega | (simp only [lens, Int.toNat_natCast, bsz, Nat.zero_mul, Nat.zero_add]; omega)), by (first | omega | (simp only [lens, Int.toNat_natCast, bsz, Nat.zero_mul, Nat.zero_add]; omega))⟩, ?_⟩ | refine ⟨rfl, ?_⟩ | refine ⟨congrArg (Value.int _) (by omega), ?_⟩); (conv => whnf))
        | (refine And.intro ?_ ?_; rotate_left; (conv => whnf); rotate_right))
      refine .to (k + 1) hlt (by omega) ?_
      have hpt := putL_take hlt
      conv => whnf
      repeat' (first
        | exact trivial
        | ((first | refine .inl ⟨in64 (by omega) (by omega), ?_⟩ | refine .inl ⟨inU64 (by omega) (by omega), ?_⟩ | refine .inl ⟨inU8 (by omega) (by omega), ?_⟩); (conv => whnf))
        | ((refine ⟨fun hb => ?_, fun hb => ?_⟩) <;> (try simp only [decide_eq_true_eq, decide_eq_false_iff_not, Int.not_lt, Int.not_le, beq_iff_eq, beq_eq_false_iff_ne, bne_iff_ne, bne_eq_false_iff_eq, ne_eq, Decidable.not_not, Bool.not_eq_true', Bool.not_eq_false', Bool.not_eq_true, Bool.not_eq_false, Int.toNat_natCast, Bool.and_eq_true, Bool.or_eq_true, Bool.and_eq_false_iff, Bool.or_eq_false_iff, List.length_nil, List.length_cons] at hb) <;> (first | (exfalso; omega) | contradiction | (conv => whnf)))
        | ((first | refine Draws.of cfg_ok (by kernel_rfl) ?_ | refine ⟨(by kernel_rfl : confB _ _ _ _ _ = true), ?_⟩ | refine ⟨by (first | omega | (simp only [lens, Int.toNat_natCast, bsz, Nat.zero_mul, Nat.zero_add]; omega)), ?_⟩ | refine .inl ⟨by omega, by omega, ?_⟩ | refine .inr ⟨⟨by (first | omega | (simp only [lens, Int.toNat_natCast, bsz, Nat.zero_mul, Nat.zero_add]; omega)), by (first | omega | (simp only [lens, Int.toNat_natCast, bsz, Nat.zero_mul, Nat.zero_add]; omega))⟩, ?_⟩ | refine .inl ⟨⟨by (first | omega | (simp only [lens, Int.toNat_natCast, bsz, Nat.zero_mul, Nat.zero_add]; omega)), by (first | omega | (simp only [lens, Int.toNat_natCast, bsz, Nat.zero_mul, Nat.zero_add]; omega))⟩, ?_⟩ | refine ⟨rfl, ?_⟩ | refine ⟨congrArg (Value.int _) (by omega), ?_⟩); (conv => whnf))
        | (refine And.intro ?_ ?_; rotate_left; (conv => whnf); rotate_right))
      all_goals (try rw [hpt])
      · exact List.take_length
      · rw [List.length_append]
      · exact List.take_of_length_le (by simp only [List.length_append]; omega)
    · obtain rfl : k = ns.length := by omega
      rw [List.take_length]
      conv => whnf
      repeat' (first
        | exact trivial
        | ((first | refine .inl ⟨in64 (by omega) (by omega), ?_⟩ | refine .inl ⟨inU64 (by omega) (by omega), ?_⟩ | refine .inl ⟨inU8 (by omega) (by omega), ?_⟩); (conv => whnf))
        | ((refine ⟨fun hb => ?_, fun hb => ?_⟩) <;> (try simp only [decide_eq_true_eq, decide_eq_false_iff_not, Int.not_lt, Int.not_le, beq_iff_eq, beq_eq_false_iff_ne, bne_iff_ne, bne_eq_false_iff_eq, ne_eq, Decidable.not_not, Bool.not_eq_true', Bool.not_eq_false', Bool.not_eq_true, Bool.not_eq_false, Int.toNat_natCast, Bool.and_eq_true, Bool.or_eq_true, Bool.and_eq_false_iff, Bool.or_eq_false_iff, List.length_nil, List.length_cons] at hb) <;> (first | (exfalso; omega) | contradiction | (conv => whnf)))
        | ((first | refine Draws.of cfg_ok (by kernel_rfl) ?_ | refine ⟨(by kernel_rfl : confB _ _ _ _ _ = true), ?_⟩ | refine ⟨by (first | omega | (simp only [lens, Int.toNat_natCast, bsz, Nat.zero_mul, Nat.zero_add]; omega)), ?_⟩ | refine .inl ⟨by omega, by omega, ?_⟩ | refine .inr ⟨⟨by (first | omega | (simp only [lens, Int.toNat_natCast, bsz, Nat.zero_mul, Nat.zero_add]; omega)), by (first | omega | (simp only [lens, Int.toNat_natCast, bsz, Nat.zero_mul, Nat.zero_add]; omega))⟩, ?_⟩ | refine .inl ⟨⟨by (first | omega | (simp only [lens, Int.toNat_natCast, bsz, Nat.zero_mul, Nat.zero_add]; omega)), by (first | omega | (simp only [lens, Int.toNat_natCast, bsz, Nat.zero_mul, Nat.zero_add]; omega))⟩, ?_⟩ | refine ⟨rfl, ?_⟩ | refine ⟨congrArg (Value.int _) (by omega), ?_⟩); (conv => whnf))
        | (refine And.intro ?_ ?_; rotate_left; (conv => whnf); rotate_right))
      all_goals first | rfl | exact List.take_length | (refine List.take_of_length_le ?_; first | exact Nat.le_refl _ | (rw [List.length_append]; exact Nat.le_refl _))

end Go.Proofs.Ytokdgkdpdepaeaa
