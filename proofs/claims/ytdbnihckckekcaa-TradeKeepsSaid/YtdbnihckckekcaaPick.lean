
/- homesteadkit.Pick. -/
import Derived.Test.YtdbnihckckekcaaBag
set_option linter.unusedSimpArgs false
set_option linter.unusedVariables false
namespace Go.Proofs.Ytdbnihckckekcaa
open Go Go.RowKit Eng

theorem tmod_pos {n s : Int} (h : 1 ≤ s) : (if Int.tmod n s < 0 then Int.tmod n s + s else Int.tmod n s) = n % s := by
  rw [Int.tmod_eq_emod]
  have h1 := Int.emod_nonneg n (by omega : s ≠ 0)
  have h2 := Int.emod_lt_of_pos n (by omega : 0 < s)
  by_cases hd : 0 ≤ n ∨ s ∣ n
  · rw [if_pos hd]; split <;> omega
  · rw [if_neg hd]; split <;> omega
theorem tmod_bd {n s : Int} (h : 1 ≤ s) : -s < Int.tmod n s ∧ Int.tmod n s < s := by
  rw [Int.tmod_eq_emod]
  have h1 := Int.emod_nonneg n (by omega : s ≠ 0)
  have h2 := Int.emod_lt_of_pos n (by omega : 0 < s)
  have h3 : n % s = 0 → s ∣ n := Int.dvd_of_emod_eq_zero
  by_cases hd : 0 ≤ n ∨ s ∣ n
  · rw [if_pos hd]; omega
  · rw [if_neg hd]; omega

set_option maxRecDepth 100000 in
set_option maxHeartbeats 4000000 in
theorem pick_api (n s : Int) (hs : 1 ≤ s) (hs2 : s ≤ 4611686018427387904) : Api Try.prog 14 [i64 n, i64 s] (i64 (n % s)) := by
  have hb := tmod_bd (n := n) hs
  have he := tmod_pos (n := n) hs
  refine Api.of_fin cfg_ok Try.func14 rfl (nt := 14) rfl rfl ?_
  conv => whnf
  repeat' (first
    | exact trivial
    | ((first | refine .inl ⟨in64 (by omega) (by omega), ?_⟩ | refine .inl ⟨inU64 (by omega) (by omega), ?_⟩ | refine .inl ⟨inU8 (by omega) (by omega), ?_⟩); (conv => whnf))
    | ((refine ⟨fun hb => ?_, fun hb => ?_⟩) <;> (try simp only [decide_eq_true_eq, decide_eq_false_iff_not, Int.not_lt, Int.not_le, beq_iff_eq, beq_eq_false_iff_ne, bne_iff_ne, bne_eq_false_iff_eq, ne_eq, Decidable.not_not, Bool.not_eq_true', Bool.not_eq_false', Bool.not_eq_true, Bool.not_eq_false, Int.toNat_natCast, Bool.and_eq_true, Bool.or_eq_true, Bool.and_eq_false_iff, Bool.or_eq_false_iff, List.length_nil, List.length_cons] at hb) <;> (first | (exfalso; omega) | contradiction | exact Bool.noConfusion (show true = false from hb.symm.trans (by assumption)) | exact Bool.noConfusion (show false = true from hb.symm.trans (by assumption)) | (conv => whnf)))
    | (refine .inr ⟨(by omega : s ≠ 0), ?_⟩; (conv => whnf))
    | ((first | refine Draws.of cfg_ok (by kernel_rfl) ?_ | refine ⟨(by kernel_rfl : confB _ _ _ _ _ = true), ?_⟩ | refine ⟨by (first | omega | (simp only [lens, Int.toNat_natCast, bsz, Nat.zero_mul, Nat.zero_add]; omega)), ?_⟩ | refine .inl ⟨by omega, by omega, ?_⟩ | refine .inr ⟨⟨by (first | omega | (simp only [lens, Int.toNat_natCast, bsz, Nat.zero_mul, Nat.zero_add]; omega)), by (first | omega | (simp only [lens, Int.toNat_natCast, bsz, Nat.zero_mul, Nat.zero_add]; omega))⟩, ?_⟩ | refine .inl ⟨⟨by (first | omega | (simp only [lens, Int.toNat_natCast, bsz, Nat.zero_mul, Nat.zero_add]; omega)), by (first | omega | (simp only [lens, Int.toNat_natCast, bsz, Nat.zero_mul, Nat.zero_add]; omega))⟩, ?_⟩ | refine ⟨rfl, ?_⟩ | refine ⟨congrArg (Value.int _) (by omega), ?_⟩); (conv => whnf))
    | (refine And.intro ?_ ?_; rotate_left; (conv => whnf); rotate_right))

end Go.Proofs.Ytdbnihckckekcaa
