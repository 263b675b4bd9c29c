
/- slices.Delete, slices.Insert of players. -/
import Derived.Test.YtdbnihckckekcaaDelIns0
set_option linter.unusedSimpArgs false
set_option linter.unusedVariables false
namespace Go.Proofs.Ytdbnihckckekcaa
open Go Go.RowKit Eng

theorem ins_roomP (l : List (El .player)) (i : Nat) (b : El .player) (hi : i < l.length) : (upon (l.take (i + 1) ++ l.drop i) i [b]).take (l.length + 1) = l.take i ++ b :: l.drop i := by
  unfold upon
  have h1 : (l.take (i + 1) ++ l.drop i).take i = l.take i := by
    rw [List.take_append_of_le_length (by simp; omega), List.take_take, Nat.min_eq_left (by omega)]
  have h2 : (l.take (i + 1) ++ l.drop i).drop (i + ([b] : List (El .player)).length) = l.drop i := List.drop_left' (by simp; omega)
  rw [h1, h2]
  exact List.take_of_length_le (by simp; omega)
theorem ins_len1P (l : List (El .player)) (i : Nat) (hi : i < l.length) : i ≤ (l.take (i + 1) ++ l.drop i).length := by simp; omega
theorem ins_len2P (l : List (El .player)) (i : Nat) (b : El .player) (hi : i < l.length) : l.length + 1 ≤ (upon (l.take (i + 1) ++ l.drop i) i [b]).length := by simp [upon]; omega

set_option maxRecDepth 100000 in
set_option maxHeartbeats 2000000 in
theorem insert_capP (l : List (El .player)) (i : Nat) (b : El .player) (hi : i ≤ l.length) (hl : (l.length + 1) * 88 ≤ 140737488355328) (c : Nat) (hc : l.length ≤ c) : Ev1 Try.prog 56 [.own .player 1 0 l.length (some c), i64 i, .own .player 3 0 1 (some 1)] [(1, .row .player l), (3, .row .player [b])] (.own .player 390001 0 (l.length + 1) none) [(390001, .row .player (l.take i ++ b :: l.drop i))] := by
  refine Ev1.of_fin cfg_ok Try.func56 rfl (nt := 92) rfl rfl rfl ?_
  conv => whnf
  have e1 : ((i : Int) - 0).toNat = i := by omega
  have e2 : ((l.length : Int) - (i : Int)).toNat = l.length - i := by omega
  have e4 : ((l.length : Int) + 1 - (i : Int)).toNat = l.length + 1 - i := by omega
  have e3 : List.take (l.length - i) (l.drop i) = l.drop i := List.take_of_length_le (by simp)
  have e5 : ((i : Int) + 1).toNat = i + 1 := by omega
  have e6 : i + (l.length + 1 - i) = l.length + 1 := by omega
  have e7 : (((l.length + 1 : Nat) : Int) - (i : Int)).toNat = l.length + 1 - i := by omega
  have e8 : (((l.length + 1 : Nat) : Int) - ((i : Int) + 1)).toNat = l.length - i := by omega
  have e9 : ((l.length : Int) + 1 - ((i : Int) + 1)).toNat = l.length - i := by omega
  have ea : ((l.length : Int) + 1).toNat = l.length + 1 := by omega
  have eb : min 1 (l.length + 1 - i) = 1 := by omega
  have ec : ((l.length : Int) + 1 - 0).toNat = l.length + 1 := by omega
  by_cases hcap : c < l.length + 1
  · repeat' (first
      | exact trivial
      | ((first | refine .inl ⟨in64 (by omega) (by omega), ?_⟩ | refine .inl ⟨inU64 (by omega) (by omega), ?_⟩ | refine .inl ⟨inU8 (by omega) (by omega), ?_⟩); (conv => whnf))
      | ((refine ⟨fun hb => ?_, fun hb => ?_⟩) <;> (try simp only [decide_eq_true_eq, decide_eq_false_iff_not, Int.not_lt, Int.not_le, beq_iff_eq, beq_eq_false_iff_ne, bne_iff_ne, bne_eq_false_iff_eq, ne_eq, Decidable.not_not, Bool.not_eq_true', Bool.not_eq_false', Bool.not_eq_true, Bool.not_eq_false, Int.toNat_natCast, Bool.and_eq_true, Bool.or_eq_true, Bool.and_eq_false_iff, Bool.or_eq_false_iff, List.length_nil, List.length_cons] at hb) <;> (first | (exfalso; omega) | contradiction | (conv => whnf)))
      | ((first | refine Draws.of cfg_ok (by kernel_rfl) ?_ | refine ⟨(by kernel_rfl : confB _ _ _ _ _ = true), ?_⟩ | refine ⟨by (first | omega | (simp only [lens, Int.toNat_natCast, bsz, Nat.zero_mul, Nat.zero_add]; omega)), ?_⟩ | refine .inl ⟨by omega, by omega, ?_⟩ | refine .inr ⟨⟨by (first | omega | (simp only [lens, Int.toNat_natCast, bsz, Nat.zero_mul, Nat.zero_add]; omega)), by (first | omega | (simp only [lens, Int.toNat_natCast, bsz, Nat.zero_mul, Nat.zero_add]; omega))⟩, ?_⟩ | refine .inl ⟨⟨by (first | omega | (simp only [lens, Int.toNat_natCast, bsz, Nat.zero_mul, Nat.zero_add]; omega)), by (first | omega | (simp only [lens, Int.toNat_natCast, bsz, Nat.zero_mul, Nat.zero_add]; omega))⟩, ?_⟩ | refine ⟨rfl, ?_⟩ | refine ⟨congrArg (Value.int _) (by omega), ?_⟩); (conv => whnf))
      | (refine And.intro ?_ ?_; rotate_left; (conv => whnf); rotate_right))
    · obtain rfl : i = l.length := by omega
      simp only [List.take_length, List.drop_length]
      exact List.take_of_length_le (by simp)
    all_goals simp only [e1, e2, e3, e4, Int.natCast_one, e5, e6, e7, e8, e9, ea, eb, ec, Int.toNat_natCast, Int.toNat_zero, Nat.add_zero, Nat.zero_add, List.drop_zero, List.take_succ_cons, List.take_zero, List.length_cons, List.length_nil, Nat.min_self, List.length_drop]
    · simp [upon]; omega
    · simp [upon]; omega
    · generalize hR : List.replicate (l.length + 1 - i) (dflt Ty.player) = R
      have hRl : R.length = l.length + 1 - i := by rw [← hR, List.length_replicate]
      have h1 : l.length + 1 = (i + 1) + (l.drop i).length := by simp; omega
      rw [h1, upon_part _ _ _ (by simp [upon]; omega)]
      have h2 := upon_part (l.take i ++ R) [b] i (by simp; omega)
      rw [List.length_singleton] at h2
      rw [h2, List.take_left' (by simp; omega)]
      simp
  · have ed : min (l.length + 1 - i) (l.length - i) = l.length - i := by omega
    have hX : upon l (i + 1) (l.drop i) = l.take (i + 1) ++ l.drop i := by
      unfold upon
      rw [show l.drop (i + 1 + (l.drop i).length) = [] from List.drop_eq_nil_of_le (by simp; omega), List.append_nil]
    repeat' (first
      | exact trivial
      | ((first | refine .inl ⟨in64 (by omega) (by omega), ?_⟩ | refine .inl ⟨inU64 (by omega) (by omega), ?_⟩ | refine .inl ⟨inU8 (by omega) (by omega), ?_⟩); (conv => whnf))
      | ((refine ⟨fun hb => ?_, fun hb => ?_⟩) <;> (try simp only [decide_eq_true_eq, decide_eq_false_iff_not, Int.not_lt, Int.not_le, beq_iff_eq, beq_eq_false_iff_ne, bne_iff_ne, bne_eq_false_iff_eq, ne_eq, Decidable.not_not, Bool.not_eq_true', Bool.not_eq_false', Bool.not_eq_true, Bool.not_eq_false, Int.toNat_natCast, Bool.and_eq_true, Bool.or_eq_true, Bool.and_eq_false_iff, Bool.or_eq_false_iff, List.length_nil, List.length_cons] at hb) <;> (first | (exfalso; omega) | contradiction | (conv => whnf)))
      | ((first | refine Draws.of cfg_ok (by kernel_rfl) ?_ | refine ⟨(by kernel_rfl : confB _ _ _ _ _ = true), ?_⟩ | refine ⟨by (first | omega | (simp only [lens, Int.toNat_natCast, bsz, Nat.zero_mul, Nat.zero_add]; omega)), ?_⟩ | refine .inl ⟨by omega, by omega, ?_⟩ | refine .inr ⟨⟨by (first | omega | (simp only [lens, Int.toNat_natCast, bsz, Nat.zero_mul, Nat.zero_add]; omega)), by (first | omega | (simp only [lens, Int.toNat_natCast, bsz, Nat.zero_mul, Nat.zero_add]; omega))⟩, ?_⟩ | refine .inl ⟨⟨by (first | omega | (simp only [lens, Int.toNat_natCast, bsz, Nat.zero_mul, Nat.zero_add]; omega)), by (first | omega | (simp only [lens, Int.toNat_natCast, bsz, Nat.zero_mul, Nat.zero_add]; omega))⟩, ?_⟩ | refine ⟨rfl, ?_⟩ | refine ⟨congrArg (Value.int _) (by omega), ?_⟩); (conv => whnf))
      | (refine And.intro ?_ ?_; rotate_left; (conv => whnf); rotate_right))
    · obtain rfl : i = l.length := by omega
      simp only [List.take_length, List.drop_length]
      rw [← List.append_assoc, Nat.zero_add, List.take_length]
      have hlb : l.length + 1 = (l ++ [b]).length := by rw [List.length_append]; rfl
      exact List.take_left' hlb.symm
    all_goals simp only [e1, e2, e3, e4, Int.natCast_one, e5, e6, e7, e8, e9, ea, eb, ec, ed, Int.toNat_natCast, Int.toNat_zero, Nat.add_zero, Nat.zero_add, List.drop_zero, List.take_succ_cons, List.take_zero, List.length_cons, List.length_nil, Nat.min_self, List.length_drop, hX]
    · exact ins_len1P l i (by omega)
    · exact ins_len2P l i b (by omega)
    · exact ins_roomP l i b (by omega)

theorem insert_evP (l : List (El .player)) (i : Nat) (b : El .player) (hi : i ≤ l.length) (hl : (l.length + 1) * 88 ≤ 140737488355328) : Ev1 Try.prog 56 [.own .player 1 0 l.length none, i64 i, .own .player 3 0 1 (some 1)] [(1, .row .player l), (3, .row .player [b])] (.own .player 390001 0 (l.length + 1) none) [(390001, .row .player (l.take i ++ b :: l.drop i))] :=
  Ev1.cap fun c hc => insert_capP l i b hi hl c hc


theorem insert_evnP (l : List (El .player)) (n : Nat) (i : Nat) (b : El .player) (hn : n = l.length) (hi : i ≤ l.length) (hl : (l.length + 1) * 88 ≤ 140737488355328) : Ev1 Try.prog 56 [.own .player 1 0 n none, i64 i, .own .player 3 0 1 (some 1)] [(1, .row .player l), (3, .row .player [b])] (.own .player 390001 0 (n + 1) none) [(390001, .row .player (l.take i ++ b :: l.drop i))] := by
  subst hn; exact insert_evP l i b hi hl
end Go.Proofs.Ytdbnihckckekcaa
