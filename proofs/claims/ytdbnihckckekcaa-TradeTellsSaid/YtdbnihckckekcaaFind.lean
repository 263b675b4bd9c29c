
/- chunk.find: where a cell's box is, or would be. -/
import Derived.Test.YtdbnihckckekcaaCopied
set_option linter.unusedSimpArgs false
set_option linter.unusedVariables false
namespace Go.Proofs.Ytdbnihckckekcaa
open Go Go.RowKit Eng

set_option maxRecDepth 100000 in
set_option maxHeartbeats 4000000 in
theorem nan_api (n : Int) : Api Try.prog 98 [i64 n] .ff := by
  refine Api.of_fin cfg_ok Try.func98 rfl (nt := 5) rfl rfl ?_
  conv => whnf
  repeat' (first
    | exact trivial
    | ((first | refine .inl ⟨in64 (by omega) (by omega), ?_⟩ | refine .inl ⟨inU64 (by omega) (by omega), ?_⟩ | refine .inl ⟨inU8 (by omega) (by omega), ?_⟩); (conv => whnf))
    | ((refine ⟨fun hb => ?_, fun hb => ?_⟩) <;> (try simp only [decide_eq_true_eq, decide_eq_false_iff_not, Int.not_lt, Int.not_le, beq_iff_eq, beq_eq_false_iff_ne, bne_iff_ne, bne_eq_false_iff_eq, ne_eq, Decidable.not_not, Bool.not_eq_true', Bool.not_eq_false', Bool.not_eq_true, Bool.not_eq_false, Int.toNat_natCast, Bool.and_eq_true, Bool.or_eq_true, Bool.and_eq_false_iff, Bool.or_eq_false_iff, List.length_nil, List.length_cons] at hb) <;> (first | (exfalso; omega) | contradiction | (conv => whnf)))
    | ((first | refine Draws.of cfg_ok (by kernel_rfl) ?_ | refine ⟨(by kernel_rfl : confB _ _ _ _ _ = true), ?_⟩ | refine ⟨by (first | omega | (simp only [lens, Int.toNat_natCast, bsz, Nat.zero_mul, Nat.zero_add]; omega)), ?_⟩ | refine .inl ⟨by omega, by omega, ?_⟩ | refine .inr ⟨⟨by (first | omega | (simp only [lens, Int.toNat_natCast, bsz, Nat.zero_mul, Nat.zero_add]; omega)), by (first | omega | (simp only [lens, Int.toNat_natCast, bsz, Nat.zero_mul, Nat.zero_add]; omega))⟩, ?_⟩ | refine .inl ⟨⟨by (first | omega | (simp only [lens, Int.toNat_natCast, bsz, Nat.zero_mul, Nat.zero_add]; omega)), by (first | omega | (simp only [lens, Int.toNat_natCast, bsz, Nat.zero_mul, Nat.zero_add]; omega))⟩, ?_⟩ | refine ⟨rfl, ?_⟩ | refine ⟨congrArg (Value.int _) (by omega), ?_⟩); (conv => whnf))
    | (refine And.intro ?_ ?_; rotate_left; (conv => whnf); rotate_right))
  all_goals simp

def cmpI (a b : Int) : Int := if a < b then -1 else if b < a then 1 else 0
theorem cmpI_lt {a b : Int} : cmpI a b < 0 ↔ a < b := by unfold cmpI; (repeat' split) <;> omega
theorem cmpI_ge {a b : Int} : 0 ≤ cmpI a b ↔ b ≤ a := by unfold cmpI; (repeat' split) <;> omega
theorem cmpI_eq {a b : Int} : cmpI a b = 0 ↔ a = b := by unfold cmpI; (repeat' split) <;> omega
set_option maxRecDepth 100000 in
set_option maxHeartbeats 4000000 in
theorem cmp_api (a b : Int) : Api Try.prog 80 [i64 a, i64 b] (i64 (cmpI a b)) := by
  refine Api.of_fin cfg_ok Try.func80 rfl (nt := 18) rfl rfl ?_
  conv => whnf
  repeat' (first
    | exact trivial
    | ((first | refine .inl ⟨in64 (by omega) (by omega), ?_⟩ | refine .inl ⟨inU64 (by omega) (by omega), ?_⟩ | refine .inl ⟨inU8 (by omega) (by omega), ?_⟩); (conv => whnf))
    | ((refine ⟨fun hb => ?_, fun hb => ?_⟩) <;> (try simp only [decide_eq_true_eq, decide_eq_false_iff_not, Int.not_lt, Int.not_le, beq_iff_eq, beq_eq_false_iff_ne, bne_iff_ne, bne_eq_false_iff_eq, ne_eq, Decidable.not_not, Bool.not_eq_true', Bool.not_eq_false', Bool.not_eq_true, Bool.not_eq_false, Int.toNat_natCast, Bool.and_eq_true, Bool.or_eq_true, Bool.and_eq_false_iff, Bool.or_eq_false_iff, List.length_nil, List.length_cons] at hb) <;> (first | (exfalso; omega) | contradiction | (conv => whnf)))
    | ((first | (refine isE 98 ?_; refine callApi (nan_api _) rfl rfl ?_) | (refine isD 98 ?_; refine callApiD (nan_api _) rfl rfl ?_) | refine Draws.of cfg_ok (by kernel_rfl) ?_ | refine ⟨(by kernel_rfl : confB _ _ _ _ _ = true), ?_⟩ | refine ⟨by (first | omega | (simp only [lens, Int.toNat_natCast, bsz, Nat.zero_mul, Nat.zero_add]; omega)), ?_⟩ | refine .inl ⟨by omega, by omega, ?_⟩ | refine .inr ⟨⟨by (first | omega | (simp only [lens, Int.toNat_natCast, bsz, Nat.zero_mul, Nat.zero_add]; omega)), by (first | omega | (simp only [lens, Int.toNat_natCast, bsz, Nat.zero_mul, Nat.zero_add]; omega))⟩, ?_⟩ | refine .inl ⟨⟨by (first | omega | (simp only [lens, Int.toNat_natCast, bsz, Nat.zero_mul, Nat.zero_add]; omega)), by (first | omega | (simp only [lens, Int.toNat_natCast, bsz, Nat.zero_mul, Nat.zero_add]; omega))⟩, ?_⟩ | refine ⟨rfl, ?_⟩ | refine ⟨congrArg (Value.int _) (by omega), ?_⟩); (conv => whnf))
    | (refine And.intro ?_ ?_; rotate_left; (conv => whnf); rotate_right))
  all_goals (refine congrArg (Value.int _) ?_; unfold cmpI; (repeat' split) <;> omega)

/-- Boxes stand by rising cells. -/
def rises : List Box → Prop
  | [] => True
  | b :: r => (∀ x ∈ r, b.cell < x.cell) ∧ rises r
/-- How many boxes stand ahead of a cell. -/
def lb (t : Int) : List Box → Nat
  | [] => 0
  | b :: r => if b.cell < t then lb t r + 1 else 0
theorem lb_le (t : Int) (l : List Box) : lb t l ≤ l.length := by
  induction l with
  | nil => simp [lb]
  | cons b r ih => simp only [lb, List.length_cons]; split <;> omega
theorem elt_cons (b : Box) (r : List Box) (i : Nat) : elt .box (List.cons (α := Box) b r) (i + 1) = elt .box r i := rfl
theorem rises_lt {l : List Box} (h : rises l) : ∀ {i j : Nat}, i < j → j < l.length → (elt .box l i).cell < (elt .box l j).cell := by
  induction l with
  | nil => intro i j _ hj; simp at hj
  | cons b r ih =>
    intro i j hij hj
    cases j with
    | zero => omega
    | succ j =>
      rw [elt_cons]
      simp only [List.length_cons] at hj
      cases i with
      | zero => exact h.1 _ (elt_mem (t := .box) (by omega))
      | succ i => rw [elt_cons]; exact ih h.2 (by omega) (by omega)
theorem lb_eq {t : Int} : ∀ {l : List Box} {i : Nat}, i ≤ l.length → (∀ k < i, (elt .box l k).cell < t) → (i < l.length → t ≤ (elt .box l i).cell) → lb t l = i
  | [], i, hi, _, _ => by simp at hi; simp [lb, hi]
  | b :: r, 0, _, _, h => by
    have := h (by simp)
    rw [elt_zero] at this
    simp only [lb]; rw [if_neg (by omega)]
  | b :: r, i + 1, hi, h1, h2 => by
    have h0 := h1 0 (by omega)
    rw [elt_zero] at h0
    simp only [lb, List.length_cons] at *
    rw [if_pos h0, lb_eq (l := r) (i := i) (by omega) (fun k hk => by have := h1 (k + 1) (by omega); rwa [elt_cons] at this) (fun hk => by have := h2 (by omega); rwa [elt_cons] at this)]
theorem lb_lt {t : Int} : ∀ {l : List Box} {k : Nat}, k < lb t l → (elt .box l k).cell < t
  | [], k, h => by simp [lb] at h
  | b :: r, k, h => by
    simp only [lb] at h
    split at h
    · cases k with
      | zero => rw [elt_zero]; assumption
      | succ k => rw [elt_cons]; exact lb_lt (by omega)
    · omega
theorem lb_ge {t : Int} : ∀ {l : List Box}, lb t l < l.length → t ≤ (elt .box l (lb t l)).cell
  | [], h => by simp [lb] at h
  | b :: r, h => by
    simp only [lb] at h ⊢
    split
    · rename_i hb
      rw [if_pos hb] at h
      rw [elt_cons]; exact lb_ge (by simp at h; omega)
    · rw [elt_zero]; omega

theorem shr1 (i j : Nat) : ((i : Int) + (j : Int)).fdiv (2 ^ min (Int.toNat 1) IntKind.u64.bits) = (((i + j) / 2 : Nat) : Int) := by
  have : (2 : Int) ^ min (Int.toNat 1) IntKind.u64.bits = 2 := rfl
  rw [this, Int.fdiv_eq_ediv_of_nonneg _ (by omega)]
  omega

def thereB (l : List Box) (t : Int) : Bool := decide (lb t l < l.length) && ((elt .box l (lb t l)).cell == t)

end Go.Proofs.Ytdbnihckckekcaa
