/- homesteadlaw19.ViewBoth. -/
import Derived.Test.YtelgmmcnopjolaaGi
/- homesteadlaw19.ViewBoth. -/
set_option linter.unusedSimpArgs false
set_option linter.unusedVariables false
namespace Go.Proofs.Ytelgmmcnopjolaa
open Go Go.RowKit Eng

def seeO : List Seen → Player → Bool
  | [], _ => false
  | s :: r, p => if s.id = p.id then decide (s.x = p.x) && decide (s.y = p.y) else seeO r p
theorem seeO_of {l : List Player} {P : Player → Bool} {q : Player} (hr : risesK pid l) (hq : q ∈ l) : seeO ((l.filter P).map seenP) q = P q := by
  have key : ∀ m : List Player, (∀ a ∈ m, a ∈ l) → (q ∈ m → seeO ((m.filter P).map seenP) q = P q) ∧ (q ∉ m → seeO ((m.filter P).map seenP) q = false) := by
    intro m
    induction m with
    | nil => exact fun _ => ⟨fun h => by simp at h, fun _ => rfl⟩
    | cons a t ih =>
      intro hm
      obtain ⟨i1, i2⟩ := ih fun b hb => hm b (List.mem_cons_of_mem _ hb)
      have heq : a.id = q.id → a = q := fun h => by
        have h1 := getK_of_mem hr (hm a (List.mem_cons_self ..))
        have h2 := getK_of_mem hr hq
        have h3 : pid a = pid q := h
        rw [h3, h2] at h1
        exact (Option.some.inj h1).symm
      cases hP : P a with
      | true =>
        rw [List.filter_cons_of_pos hP, List.map_cons]
        by_cases hi : a.id = q.id
        · obtain rfl := heq hi
          constructor
          · intro _
            rw [hP]; unfold seeO; rw [if_pos (show (seenP a).id = a.id from rfl)]; simp [seenP]
          · intro h; exact absurd (List.mem_cons_self ..) h
        · have hne : a ≠ q := fun h => hi (by rw [h])
          have hs : seeO (seenP a :: (t.filter P).map seenP) q = seeO ((t.filter P).map seenP) q := by
            rw [seeO, if_neg (show ¬ (seenP a).id = q.id from hi)]
          rw [hs]
          constructor
          · intro h
            rcases List.mem_cons.1 h with h | h
            · exact absurd h.symm hne
            · exact i1 h
          · intro h; exact i2 fun hq => h (List.mem_cons_of_mem _ hq)
      | false =>
        rw [List.filter_cons_of_neg (by rw [hP]; simp)]
        by_cases hi : a = q
        · subst hi
          constructor
          · intro _
            by_cases ht : a ∈ t
            · exact i1 ht
            · rw [i2 ht, hP]
          · intro h; exact absurd (List.mem_cons_self ..) h
        · constructor
          · intro h
            rcases List.mem_cons.1 h with h | h
            · exact absurd h.symm hi
            · exact i1 h
          · intro h; exact i2 fun hq => h (List.mem_cons_of_mem _ hq)
  exact (key l fun _ h => h).1 hq
theorem seeO_oth {l : List Player} {p q : Player} {r id : Int} (hr : risesK pid l) (hq : q ∈ l) (hi : ¬ q.id = id) : seeO (othV l p r id l.length) q = seesB p r (q.x / 8) (q.y / 8) := by
  unfold othV
  rw [List.take_length, seeO_of hr hq]
  unfold othB
  rw [decide_eq_false hi]; rfl

set_option maxRecDepth 100000 in
set_option maxHeartbeats 4000000 in
theorem seeO_api (v : Viw) (p : Player) (hl : v.others.length ≤ 100000) : Api Try.prog 26 [viewV v, playerV p] (bol (seeO v.others p)) := by
  refine Api.of_fin cfg_ok Try.func26 rfl (nt := 30) rfl rfl ?_
  conv => whnf
  refine Runs.loopS cfg_ok (σ := Nat) [3, 8, 9, 10] (fun k => [.ptr 6 0, .vec .seen v.others, i64 v.others.length, i64 k]) (fun _ => [(6, .box (playerC p))]) (fun k => k ≤ v.others.length ∧ seeO (v.others.drop k) p = seeO v.others p) (fun k => v.others.length - k) 0 ⟨by omega, rfl⟩ ?_ ?_
  · conv => whnf
    repeat' (first
      | exact trivial
      | ((first | refine .inl ⟨in64 (by omega) (by omega), ?_⟩ | refine .inl ⟨inU64 (by omega) (by omega), ?_⟩ | refine .inl ⟨inU8 (by omega) (by omega), ?_⟩); (conv => whnf))
      | ((refine ⟨fun hb => ?_, fun hb => ?_⟩) <;> (try simp only [decide_eq_true_eq, decide_eq_false_iff_not, Int.not_lt, Int.not_le, beq_iff_eq, beq_eq_false_iff_ne, bne_iff_ne, bne_eq_false_iff_eq, ne_eq, Decidable.not_not, Bool.not_eq_true', Bool.not_eq_false', Bool.not_eq_true, Bool.not_eq_false, Int.toNat_natCast, Bool.and_eq_true, Bool.or_eq_true, Bool.and_eq_false_iff, Bool.or_eq_false_iff, List.length_nil, List.length_cons] at hb) <;> (first | (exfalso; omega) | contradiction | exact Bool.noConfusion (show true = false from hb.symm.trans (by assumption)) | exact Bool.noConfusion (show false = true from hb.symm.trans (by assumption)) | (conv => whnf)))
      | ((first | refine Draws.of cfg_ok (by kernel_rfl) ?_ | refine ⟨(by kernel_rfl : confB _ _ _ _ _ = true), ?_⟩ | refine ⟨by (first | omega | (simp only [lens, Int.toNat_natCast, bsz, Nat.zero_mul, Nat.zero_add]; omega)), ?_⟩ | refine .inl ⟨by omega, by omega, ?_⟩ | refine .inr ⟨⟨by (first | omega | (simp only [lens, Int.toNat_natCast, bsz, Nat.zero_mul, Nat.zero_add]; omega)), by (first | omega | (simp only [lens, Int.toNat_natCast, bsz, Nat.zero_mul, Nat.zero_add]; omega))⟩, ?_⟩ | refine .inl ⟨⟨by (first | omega | (simp only [lens, Int.toNat_natCast, bsz, Nat.zero_mul, Nat.zero_add]; omega)), by (first | omega | (simp only [lens, Int.toNat_natCast, bsz, Nat.zero_mul, Nat.zero_add]; omega))⟩, ?_⟩ | refine ⟨rfl, ?_⟩ | refine ⟨congrArg (Value.int _) (by omega), ?_⟩); (conv => whnf))
      | (refine And.intro ?_ ?_; rotate_left; (conv => whnf); rotate_right))
  · intro k ⟨hk, he⟩
    by_cases hlt : k < v.others.length
    · rw [drop_elt (t := .seen) hlt, seeO] at he
      by_cases hid : (elt .seen v.others k).id = p.id
      · rw [if_pos hid] at he
        rw [← he]
        conv => whnf
        repeat' (first
          | exact trivial
          | ((first | refine .inl ⟨in64 (by omega) (by omega), ?_⟩ | refine .inl ⟨inU64 (by omega) (by omega), ?_⟩ | refine .inl ⟨inU8 (by omega) (by omega), ?_⟩); (conv => whnf))
          | ((refine ⟨fun hb => ?_, fun hb => ?_⟩) <;> (try simp only [decide_eq_true_eq, decide_eq_false_iff_not, Int.not_lt, Int.not_le, beq_iff_eq, beq_eq_false_iff_ne, bne_iff_ne, bne_eq_false_iff_eq, ne_eq, Decidable.not_not, Bool.not_eq_true', Bool.not_eq_false', Bool.not_eq_true, Bool.not_eq_false, Int.toNat_natCast, Bool.and_eq_true, Bool.or_eq_true, Bool.and_eq_false_iff, Bool.or_eq_false_iff, List.length_nil, List.length_cons] at hb) <;> (first | (exfalso; omega) | contradiction | exact Bool.noConfusion (show true = false from hb.symm.trans (by assumption)) | exact Bool.noConfusion (show false = true from hb.symm.trans (by assumption)) | (conv => whnf)))
          | ((first | refine Draws.of cfg_ok (by kernel_rfl) ?_ | refine ⟨(by kernel_rfl : confB _ _ _ _ _ = true), ?_⟩ | refine ⟨by (first | omega | (simp only [lens, Int.toNat_natCast, bsz, Nat.zero_mul, Nat.zero_add]; omega)), ?_⟩ | refine .inl ⟨by omega, by omega, ?_⟩ | refine .inr ⟨⟨by (first | omega | (simp only [lens, Int.toNat_natCast, bsz, Nat.zero_mul, Nat.zero_add]; omega)), by (first | omega | (simp only [lens, Int.toNat_natCast, bsz, Nat.zero_mul, Nat.zero_add]; omega))⟩, ?_⟩ | refine .inl ⟨⟨by (first | omega | (simp only [lens, Int.toNat_natCast, bsz, Nat.zero_mul, Nat.zero_add]; omega)), by (first | omega | (simp only [lens, Int.toNat_natCast, bsz, Nat.zero_mul, Nat.zero_add]; omega))⟩, ?_⟩ | refine ⟨rfl, ?_⟩ | refine ⟨congrArg (Value.int _) (by omega), ?_⟩); (conv => whnf))
          | (refine And.intro ?_ ?_; rotate_left; (conv => whnf); rotate_right))
        all_goals first | rfl | omega | (refine congrArg Value.bool ?_; rw [Bool.eq_iff_iff]; simp only [Bool.and_eq_true, Bool.and_eq_true, Bool.or_eq_true, Bool.not_eq_true', Bool.and_eq_false_iff, Bool.or_eq_false_iff, decide_eq_true_eq, decide_eq_false_iff_not, beq_iff_eq, beq_eq_false_iff_ne, bne_iff_ne, ne_eq, Bool.false_eq_true, Int.toNat_natCast, eq_self, iff_true, true_iff, iff_false, false_iff, Bool.true_eq_false, not_and, Decidable.not_not, not_true_eq_false, not_false_eq_true]; (first | done | omega | (simp_all; done) | (simp_all; omega))) | trace_state
      · rw [if_neg hid] at he
        conv => whnf
        repeat' (first
          | exact trivial
          | ((first | refine .inl ⟨in64 (by omega) (by omega), ?_⟩ | refine .inl ⟨inU64 (by omega) (by omega), ?_⟩ | refine .inl ⟨inU8 (by omega) (by omega), ?_⟩); (conv => whnf))
          | ((refine ⟨fun hb => ?_, fun hb => ?_⟩) <;> (try simp only [decide_eq_true_eq, decide_eq_false_iff_not, Int.not_lt, Int.not_le, beq_iff_eq, beq_eq_false_iff_ne, bne_iff_ne, bne_eq_false_iff_eq, ne_eq, Decidable.not_not, Bool.not_eq_true', Bool.not_eq_false', Bool.not_eq_true, Bool.not_eq_false, Int.toNat_natCast, Bool.and_eq_true, Bool.or_eq_true, Bool.and_eq_false_iff, Bool.or_eq_false_iff, List.length_nil, List.length_cons] at hb) <;> (first | (exfalso; omega) | contradiction | exact Bool.noConfusion (show true = false from hb.symm.trans (by assumption)) | exact Bool.noConfusion (show false = true from hb.symm.trans (by assumption)) | (conv => whnf)))
          | ((first | refine Draws.of cfg_ok (by kernel_rfl) ?_ | refine ⟨(by kernel_rfl : confB _ _ _ _ _ = true), ?_⟩ | refine ⟨by (first | omega | (simp only [lens, Int.toNat_natCast, bsz, Nat.zero_mul, Nat.zero_add]; omega)), ?_⟩ | refine .inl ⟨by omega, by omega, ?_⟩ | refine .inr ⟨⟨by (first | omega | (simp only [lens, Int.toNat_natCast, bsz, Nat.zero_mul, Nat.zero_add]; omega)), by (first | omega | (simp only [lens, Int.toNat_natCast, bsz, Nat.zero_mul, Nat.zero_add]; omega))⟩, ?_⟩ | refine .inl ⟨⟨by (first | omega | (simp only [lens, Int.toNat_natCast, bsz, Nat.zero_mul, Nat.zero_add]; omega)), by (first | omega | (simp only [lens, Int.toNat_natCast, bsz, Nat.zero_mul, Nat.zero_add]; omega))⟩, ?_⟩ | refine ⟨rfl, ?_⟩ | refine ⟨congrArg (Value.int _) (by omega), ?_⟩); (conv => whnf))
          | (refine And.intro ?_ ?_; rotate_left; (conv => whnf); rotate_right))
        refine .to (k + 1) ⟨hlt, he⟩ (by omega) ?_
        conv => whnf
        repeat' (first
          | exact trivial
          | ((first | refine .inl ⟨in64 (by omega) (by omega), ?_⟩ | refine .inl ⟨inU64 (by omega) (by omega), ?_⟩ | refine .inl ⟨inU8 (by omega) (by omega), ?_⟩); (conv => whnf))
          | ((refine ⟨fun hb => ?_, fun hb => ?_⟩) <;> (try simp only [decide_eq_true_eq, decide_eq_false_iff_not, Int.not_lt, Int.not_le, beq_iff_eq, beq_eq_false_iff_ne, bne_iff_ne, bne_eq_false_iff_eq, ne_eq, Decidable.not_not, Bool.not_eq_true', Bool.not_eq_false', Bool.not_eq_true, Bool.not_eq_false, Int.toNat_natCast, Bool.and_eq_true, Bool.or_eq_true, Bool.and_eq_false_iff, Bool.or_eq_false_iff, List.length_nil, List.length_cons] at hb) <;> (first | (exfalso; omega) | contradiction | exact Bool.noConfusion (show true = false from hb.symm.trans (by assumption)) | exact Bool.noConfusion (show false = true from hb.symm.trans (by assumption)) | (conv => whnf)))
          | ((first | refine Draws.of cfg_ok (by kernel_rfl) ?_ | refine ⟨(by kernel_rfl : confB _ _ _ _ _ = true), ?_⟩ | refine ⟨by (first | omega | (simp only [lens, Int.toNat_natCast, bsz, Nat.zero_mul, Nat.zero_add]; omega)), ?_⟩ | refine .inl ⟨by omega, by omega, ?_⟩ | refine .inr ⟨⟨by (first | omega | (simp only [lens, Int.toNat_natCast, bsz, Nat.zero_mul, Nat.zero_add]; omega)), by (first | omega | (simp only [lens, Int.toNat_natCast, bsz, Nat.zero_mul, Nat.zero_add]; omega))⟩, ?_⟩ | refine .inl ⟨⟨by (first | omega | (simp only [lens, Int.toNat_natCast, bsz, Nat.zero_mul, Nat.zero_add]; omega)), by (first | omega | (simp only [lens, Int.toNat_natCast, bsz, Nat.zero_mul, Nat.zero_add]; omega))⟩, ?_⟩ | refine ⟨rfl, ?_⟩ | refine ⟨congrArg (Value.int _) (by omega), ?_⟩); (conv => whnf))
          | (refine And.intro ?_ ?_; rotate_left; (conv => whnf); rotate_right))
        all_goals first | rfl | omega | trace_state
    · conv => whnf
      repeat' (first
        | exact trivial
        | ((first | refine .inl ⟨in64 (by omega) (by omega), ?_⟩ | refine .inl ⟨inU64 (by omega) (by omega), ?_⟩ | refine .inl ⟨inU8 (by omega) (by omega), ?_⟩); (conv => whnf))
        | ((refine ⟨fun hb => ?_, fun hb => ?_⟩) <;> (try simp only [decide_eq_true_eq, decide_eq_false_iff_not, Int.not_lt, Int.not_le, beq_iff_eq, beq_eq_false_iff_ne, bne_iff_ne, bne_eq_false_iff_eq, ne_eq, Decidable.not_not, Bool.not_eq_true', Bool.not_eq_false', Bool.not_eq_true, Bool.not_eq_false, Int.toNat_natCast, Bool.and_eq_true, Bool.or_eq_true, Bool.and_eq_false_iff, Bool.or_eq_false_iff, List.length_nil, List.length_cons] at hb) <;> (first | (exfalso; omega) | contradiction | exact Bool.noConfusion (show true = false from hb.symm.trans (by assumption)) | exact Bool.noConfusion (show false = true from hb.symm.trans (by assumption)) | (conv => whnf)))
        | ((first | refine Draws.of cfg_ok (by kernel_rfl) ?_ | refine ⟨(by kernel_rfl : confB _ _ _ _ _ = true), ?_⟩ | refine ⟨by (first | omega | (simp only [lens, Int.toNat_natCast, bsz, Nat.zero_mul, Nat.zero_add]; omega)), ?_⟩ | refine .inl ⟨by omega, by omega, ?_⟩ | refine .inr ⟨⟨by (first | omega | (simp only [lens, Int.toNat_natCast, bsz, Nat.zero_mul, Nat.zero_add]; omega)), by (first | omega | (simp only [lens, Int.toNat_natCast, bsz, Nat.zero_mul, Nat.zero_add]; omega))⟩, ?_⟩ | refine .inl ⟨⟨by (first | omega | (simp only [lens, Int.toNat_natCast, bsz, Nat.zero_mul, Nat.zero_add]; omega)), by (first | omega | (simp only [lens, Int.toNat_natCast, bsz, Nat.zero_mul, Nat.zero_add]; omega))⟩, ?_⟩ | refine ⟨rfl, ?_⟩ | refine ⟨congrArg (Value.int _) (by omega), ?_⟩); (conv => whnf))
        | (refine And.intro ?_ ?_; rotate_left; (conv => whnf); rotate_right))
      have : k = v.others.length := by omega
      subst this
      rw [List.drop_length, seeO] at he
      rw [← he]
      all_goals first | rfl | omega | trace_state

set_option maxRecDepth 100000 in
set_option maxHeartbeats 4000000 in
theorem bothV_api (w : Wld) (i j b : Int) (hw : OkW w) (hb0 : 0 ≤ b) (hb1 : b ≤ 255) : Api Try.prog 7 [wldV w, .agg [i64 i, i64 j], .lit (.int .u8 b)] (bol true) := by
  have hgr := greatW_api w hw
  have haw := awake19_api
  have hnp := hw.np
  cases hG : greatW w with
  | true =>
    rw [hG] at hgr
    refine Api.of_fin cfg_ok Try.func7 rfl (nt := 84) rfl rfl ?_
    conv => whnf
    repeat' (first
      | exact trivial
      | ((first | refine .inl ⟨in64 (by omega) (by omega), ?_⟩ | refine .inl ⟨inU64 (by omega) (by omega), ?_⟩ | refine .inl ⟨inU8 (by omega) (by omega), ?_⟩); (conv => whnf))
      | ((refine ⟨fun hb => ?_, fun hb => ?_⟩) <;> (try simp only [decide_eq_true_eq, decide_eq_false_iff_not, Int.not_lt, Int.not_le, beq_iff_eq, beq_eq_false_iff_ne, bne_iff_ne, bne_eq_false_iff_eq, ne_eq, Decidable.not_not, Bool.not_eq_true', Bool.not_eq_false', Bool.not_eq_true, Bool.not_eq_false, Int.toNat_natCast, Bool.and_eq_true, Bool.or_eq_true, Bool.and_eq_false_iff, Bool.or_eq_false_iff, List.length_nil, List.length_cons] at hb) <;> (first | (exfalso; omega) | contradiction | exact Bool.noConfusion (show true = false from hb.symm.trans (by assumption)) | exact Bool.noConfusion (show false = true from hb.symm.trans (by assumption)) | (conv => whnf)))
      | ((first | (refine callApi (hgr) rfl rfl ?_) | (refine callApiD (hgr) rfl rfl ?_) | (refine callApi (haw) rfl rfl ?_) | (refine callApiD (haw) rfl rfl ?_) | refine Draws.of cfg_ok (by kernel_rfl) ?_ | refine ⟨(by kernel_rfl : confB _ _ _ _ _ = true), ?_⟩ | refine ⟨by (first | omega | (simp only [lens, Int.toNat_natCast, bsz, Nat.zero_mul, Nat.zero_add]; omega)), ?_⟩ | refine .inl ⟨by omega, by omega, ?_⟩ | refine .inr ⟨⟨by (first | omega | (simp only [lens, Int.toNat_natCast, bsz, Nat.zero_mul, Nat.zero_add]; omega)), by (first | omega | (simp only [lens, Int.toNat_natCast, bsz, Nat.zero_mul, Nat.zero_add]; omega))⟩, ?_⟩ | refine .inl ⟨⟨by (first | omega | (simp only [lens, Int.toNat_natCast, bsz, Nat.zero_mul, Nat.zero_add]; omega)), by (first | omega | (simp only [lens, Int.toNat_natCast, bsz, Nat.zero_mul, Nat.zero_add]; omega))⟩, ?_⟩ | refine ⟨rfl, ?_⟩ | refine ⟨congrArg (Value.int _) (by omega), ?_⟩); (conv => whnf))
      | (refine And.intro ?_ ?_; rotate_left; (conv => whnf); rotate_right))
  | false =>
    rw [hG] at hgr
    have h1 := viewOf_api w i (b % 4) hw
    have h2 := viewOf_api w j (b % 4) hw
    have n1 := ofW_num w i (b % 4)
    have n2 := ofW_num w j (b % 4)
    by_cases hij : i = j
    · generalize ofW w i (b % 4) = X at *
      generalize ofW w j (b % 4) = Y at *
      refine Api.of_fin cfg_ok Try.func7 rfl (nt := 84) rfl rfl ?_
      conv => whnf
      repeat' (first
        | exact trivial
        | ((first | refine .inl ⟨in64 (by omega) (by omega), ?_⟩ | refine .inl ⟨inU64 (by omega) (by omega), ?_⟩ | refine .inl ⟨inU8 (by omega) (by omega), ?_⟩); (conv => whnf))
        | ((refine ⟨fun hb => ?_, fun hb => ?_⟩) <;> (try simp only [decide_eq_true_eq, decide_eq_false_iff_not, Int.not_lt, Int.not_le, beq_iff_eq, beq_eq_false_iff_ne, bne_iff_ne, bne_eq_false_iff_eq, ne_eq, Decidable.not_not, Bool.not_eq_true', Bool.not_eq_false', Bool.not_eq_true, Bool.not_eq_false, Int.toNat_natCast, Bool.and_eq_true, Bool.or_eq_true, Bool.and_eq_false_iff, Bool.or_eq_false_iff, List.length_nil, List.length_cons] at hb) <;> (first | (exfalso; omega) | contradiction | exact Bool.noConfusion (show true = false from hb.symm.trans (by assumption)) | exact Bool.noConfusion (show false = true from hb.symm.trans (by assumption)) | (conv => whnf)))
        | ((first | (refine callApi (hgr) rfl rfl ?_) | (refine callApiD (hgr) rfl rfl ?_) | (refine callApi (haw) rfl rfl ?_) | (refine callApiD (haw) rfl rfl ?_) | refine Draws.of cfg_ok (by kernel_rfl) ?_ | refine ⟨(by kernel_rfl : confB _ _ _ _ _ = true), ?_⟩ | refine ⟨by (first | omega | (simp only [lens, Int.toNat_natCast, bsz, Nat.zero_mul, Nat.zero_add]; omega)), ?_⟩ | refine .inl ⟨by omega, by omega, ?_⟩ | refine .inr ⟨⟨by (first | omega | (simp only [lens, Int.toNat_natCast, bsz, Nat.zero_mul, Nat.zero_add]; omega)), by (first | omega | (simp only [lens, Int.toNat_natCast, bsz, Nat.zero_mul, Nat.zero_add]; omega))⟩, ?_⟩ | refine .inl ⟨⟨by (first | omega | (simp only [lens, Int.toNat_natCast, bsz, Nat.zero_mul, Nat.zero_add]; omega)), by (first | omega | (simp only [lens, Int.toNat_natCast, bsz, Nat.zero_mul, Nat.zero_add]; omega))⟩, ?_⟩ | refine ⟨rfl, ?_⟩ | refine ⟨congrArg (Value.int _) (by omega), ?_⟩); (conv => whnf))
        | (refine And.intro ?_ ?_; rotate_left; (conv => whnf); rotate_right))
      all_goals first | omega | rfl | trace_state
    by_cases e1 : (ofW w i (b % 4)).2 = 0
    · by_cases e2 : (ofW w j (b % 4)).2 = 0
      · obtain ⟨_, _, hRW, hP, hof⟩ := ofW_ok e1
        obtain ⟨_, _, _, hQ, hof2⟩ := ofW_ok e2
        obtain ⟨m1, i1⟩ := player_mem hP
        obtain ⟨m2, i2⟩ := player_mem hQ
        have b1 := within_bd hRW m1
        have b2 := within_bd hRW m2
        have hsz := hRW.size
        have w1 := (within_iff hRW).1 (hRW.players _ m1).2
        have w2 := (within_iff hRW).1 (hRW.players _ m2).2
        rw [hof] at h1
        rw [hof2] at h2
        have hri := (rightW_players (rightW_iff.2 hRW)).1
        have s1 := seeO_oth (p := (playerW w i).1) (r := b % 4) (id := i) hri m2 (by rw [i2]; exact fun h => hij h.symm)
        have s2 := seeO_oth (p := (playerW w j).1) (r := b % 4) (id := j) hri m1 (by rw [i1]; exact hij)
        have hcm := sees_comm (playerW w i).1 (playerW w j).1 (b % 4)
        have l1 := othV_len w.players (playerW w i).1 (b % 4) i w.players.length
        have l2 := othV_len w.players (playerW w j).1 (b % 4) j w.players.length
        have hse := seesW_api w i (b % 4) ((playerW w j).1.x / 8) ((playerW w j).1.y / 8) hw
        have hsw : seesW w i (b % 4) ((playerW w j).1.x / 8) ((playerW w j).1.y / 8) = seesB (playerW w i).1 (b % 4) ((playerW w j).1.x / 8) ((playerW w j).1.y / 8) := by
          unfold seesW
          rw [hP, decide_eq_true (by omega)]; rfl
        rw [hsw] at hse
        rw [← hcm] at s2
        generalize (playerW w i).1 = p at *
        generalize (playerW w j).1 = q at *
        have a1 := seeO_api ⟨w.tick, p, rowsV w p (b % 4) w.size.toNat w.size.toNat, othV w.players p (b % 4) i w.players.length⟩ q (by dsimp only; omega)
        have a2 := seeO_api ⟨w.tick, q, rowsV w q (b % 4) w.size.toNat w.size.toNat, othV w.players q (b % 4) j w.players.length⟩ p (by dsimp only; omega)
        dsimp only at a1 a2
        rw [s1] at a1
        rw [s2] at a2
        generalize rowsV w p (b % 4) w.size.toNat w.size.toNat = A at *
        generalize rowsV w q (b % 4) w.size.toNat w.size.toNat = B at *
        generalize othV w.players p (b % 4) i w.players.length = U at *
        generalize othV w.players q (b % 4) j w.players.length = V at *
        clear hof hof2 s1 s2 hcm hsw e1 e2
        generalize seesB p (b % 4) (q.x / 8) (q.y / 8) = Z at *
        dsimp only [viewV] at h1 h2 hse a1 a2
        cases Z with
        | true =>
          refine Api.of_fin cfg_ok Try.func7 rfl (nt := 84) rfl rfl ?_
          conv => whnf
          repeat' (first
            | exact trivial
            | ((first | refine .inl ⟨in64 (by omega) (by omega), ?_⟩ | refine .inl ⟨inU64 (by omega) (by omega), ?_⟩ | refine .inl ⟨inU8 (by omega) (by omega), ?_⟩); (conv => whnf))
            | ((refine ⟨fun hb => ?_, fun hb => ?_⟩) <;> (try simp only [decide_eq_true_eq, decide_eq_false_iff_not, Int.not_lt, Int.not_le, beq_iff_eq, beq_eq_false_iff_ne, bne_iff_ne, bne_eq_false_iff_eq, ne_eq, Decidable.not_not, Bool.not_eq_true', Bool.not_eq_false', Bool.not_eq_true, Bool.not_eq_false, Int.toNat_natCast, Bool.and_eq_true, Bool.or_eq_true, Bool.and_eq_false_iff, Bool.or_eq_false_iff, List.length_nil, List.length_cons] at hb) <;> (first | (exfalso; omega) | contradiction | exact Bool.noConfusion (show true = false from hb.symm.trans (by assumption)) | exact Bool.noConfusion (show false = true from hb.symm.trans (by assumption)) | (conv => whnf)))
            | ((first | (refine callApi (hgr) rfl rfl ?_) | (refine callApiD (hgr) rfl rfl ?_) | (refine callApi (haw) rfl rfl ?_) | (refine callApiD (haw) rfl rfl ?_) | (refine callApi (h1) rfl rfl ?_) | (refine callApiD (h1) rfl rfl ?_) | (refine callApi (h2) rfl rfl ?_) | (refine callApiD (h2) rfl rfl ?_) | (refine callApi (a1) rfl rfl ?_) | (refine callApiD (a1) rfl rfl ?_) | (refine callApi (a2) rfl rfl ?_) | (refine callApiD (a2) rfl rfl ?_) | (refine callApi (hse) rfl rfl ?_) | (refine callApiD (hse) rfl rfl ?_) | refine Draws.of cfg_ok (by kernel_rfl) ?_ | refine ⟨(by kernel_rfl : confB _ _ _ _ _ = true), ?_⟩ | refine ⟨by (first | omega | (simp only [lens, Int.toNat_natCast, bsz, Nat.zero_mul, Nat.zero_add]; omega)), ?_⟩ | refine .inl ⟨by omega, by omega, ?_⟩ | refine .inr ⟨⟨by (first | omega | (simp only [lens, Int.toNat_natCast, bsz, Nat.zero_mul, Nat.zero_add]; omega)), by (first | omega | (simp only [lens, Int.toNat_natCast, bsz, Nat.zero_mul, Nat.zero_add]; omega))⟩, ?_⟩ | refine .inl ⟨⟨by (first | omega | (simp only [lens, Int.toNat_natCast, bsz, Nat.zero_mul, Nat.zero_add]; omega)), by (first | omega | (simp only [lens, Int.toNat_natCast, bsz, Nat.zero_mul, Nat.zero_add]; omega))⟩, ?_⟩ | refine ⟨rfl, ?_⟩ | refine ⟨congrArg (Value.int _) (by omega), ?_⟩); (conv => whnf))
            | (refine And.intro ?_ ?_; rotate_left; (conv => whnf); rotate_right))
          all_goals first | omega | rfl | trace_state
        | false =>
          refine Api.of_fin cfg_ok Try.func7 rfl (nt := 84) rfl rfl ?_
          conv => whnf
          repeat' (first
            | exact trivial
            | ((first | refine .inl ⟨in64 (by omega) (by omega), ?_⟩ | refine .inl ⟨inU64 (by omega) (by omega), ?_⟩ | refine .inl ⟨inU8 (by omega) (by omega), ?_⟩); (conv => whnf))
            | ((refine ⟨fun hb => ?_, fun hb => ?_⟩) <;> (try simp only [decide_eq_true_eq, decide_eq_false_iff_not, Int.not_lt, Int.not_le, beq_iff_eq, beq_eq_false_iff_ne, bne_iff_ne, bne_eq_false_iff_eq, ne_eq, Decidable.not_not, Bool.not_eq_true', Bool.not_eq_false', Bool.not_eq_true, Bool.not_eq_false, Int.toNat_natCast, Bool.and_eq_true, Bool.or_eq_true, Bool.and_eq_false_iff, Bool.or_eq_false_iff, List.length_nil, List.length_cons] at hb) <;> (first | (exfalso; omega) | contradiction | exact Bool.noConfusion (show true = false from hb.symm.trans (by assumption)) | exact Bool.noConfusion (show false = true from hb.symm.trans (by assumption)) | (conv => whnf)))
            | ((first | (refine callApi (hgr) rfl rfl ?_) | (refine callApiD (hgr) rfl rfl ?_) | (refine callApi (haw) rfl rfl ?_) | (refine callApiD (haw) rfl rfl ?_) | (refine callApi (h1) rfl rfl ?_) | (refine callApiD (h1) rfl rfl ?_) | (refine callApi (h2) rfl rfl ?_) | (refine callApiD (h2) rfl rfl ?_) | (refine callApi (a1) rfl rfl ?_) | (refine callApiD (a1) rfl rfl ?_) | (refine callApi (a2) rfl rfl ?_) | (refine callApiD (a2) rfl rfl ?_) | (refine callApi (hse) rfl rfl ?_) | (refine callApiD (hse) rfl rfl ?_) | refine Draws.of cfg_ok (by kernel_rfl) ?_ | refine ⟨(by kernel_rfl : confB _ _ _ _ _ = true), ?_⟩ | refine ⟨by (first | omega | (simp only [lens, Int.toNat_natCast, bsz, Nat.zero_mul, Nat.zero_add]; omega)), ?_⟩ | refine .inl ⟨by omega, by omega, ?_⟩ | refine .inr ⟨⟨by (first | omega | (simp only [lens, Int.toNat_natCast, bsz, Nat.zero_mul, Nat.zero_add]; omega)), by (first | omega | (simp only [lens, Int.toNat_natCast, bsz, Nat.zero_mul, Nat.zero_add]; omega))⟩, ?_⟩ | refine .inl ⟨⟨by (first | omega | (simp only [lens, Int.toNat_natCast, bsz, Nat.zero_mul, Nat.zero_add]; omega)), by (first | omega | (simp only [lens, Int.toNat_natCast, bsz, Nat.zero_mul, Nat.zero_add]; omega))⟩, ?_⟩ | refine ⟨rfl, ?_⟩ | refine ⟨congrArg (Value.int _) (by omega), ?_⟩); (conv => whnf))
            | (refine And.intro ?_ ?_; rotate_left; (conv => whnf); rotate_right))
          all_goals first | omega | rfl | trace_state
      · generalize ofW w i (b % 4) = X at *
        generalize ofW w j (b % 4) = Y at *
        refine Api.of_fin cfg_ok Try.func7 rfl (nt := 84) rfl rfl ?_
        conv => whnf
        repeat' (first
          | exact trivial
          | ((first | refine .inl ⟨in64 (by omega) (by omega), ?_⟩ | refine .inl ⟨inU64 (by omega) (by omega), ?_⟩ | refine .inl ⟨inU8 (by omega) (by omega), ?_⟩); (conv => whnf))
          | ((refine ⟨fun hb => ?_, fun hb => ?_⟩) <;> (try simp only [decide_eq_true_eq, decide_eq_false_iff_not, Int.not_lt, Int.not_le, beq_iff_eq, beq_eq_false_iff_ne, bne_iff_ne, bne_eq_false_iff_eq, ne_eq, Decidable.not_not, Bool.not_eq_true', Bool.not_eq_false', Bool.not_eq_true, Bool.not_eq_false, Int.toNat_natCast, Bool.and_eq_true, Bool.or_eq_true, Bool.and_eq_false_iff, Bool.or_eq_false_iff, List.length_nil, List.length_cons] at hb) <;> (first | (exfalso; omega) | contradiction | exact Bool.noConfusion (show true = false from hb.symm.trans (by assumption)) | exact Bool.noConfusion (show false = true from hb.symm.trans (by assumption)) | (conv => whnf)))
          | ((first | (refine callApi (hgr) rfl rfl ?_) | (refine callApiD (hgr) rfl rfl ?_) | (refine callApi (haw) rfl rfl ?_) | (refine callApiD (haw) rfl rfl ?_) | (refine callApi (h1) rfl rfl ?_) | (refine callApiD (h1) rfl rfl ?_) | (refine callApi (h2) rfl rfl ?_) | (refine callApiD (h2) rfl rfl ?_) | refine Draws.of cfg_ok (by kernel_rfl) ?_ | refine ⟨(by kernel_rfl : confB _ _ _ _ _ = true), ?_⟩ | refine ⟨by (first | omega | (simp only [lens, Int.toNat_natCast, bsz, Nat.zero_mul, Nat.zero_add]; omega)), ?_⟩ | refine .inl ⟨by omega, by omega, ?_⟩ | refine .inr ⟨⟨by (first | omega | (simp only [lens, Int.toNat_natCast, bsz, Nat.zero_mul, Nat.zero_add]; omega)), by (first | omega | (simp only [lens, Int.toNat_natCast, bsz, Nat.zero_mul, Nat.zero_add]; omega))⟩, ?_⟩ | refine .inl ⟨⟨by (first | omega | (simp only [lens, Int.toNat_natCast, bsz, Nat.zero_mul, Nat.zero_add]; omega)), by (first | omega | (simp only [lens, Int.toNat_natCast, bsz, Nat.zero_mul, Nat.zero_add]; omega))⟩, ?_⟩ | refine ⟨rfl, ?_⟩ | refine ⟨congrArg (Value.int _) (by omega), ?_⟩); (conv => whnf))
          | (refine And.intro ?_ ?_; rotate_left; (conv => whnf); rotate_right))
        all_goals first | omega | rfl | trace_state
    · generalize ofW w i (b % 4) = X at *
      generalize ofW w j (b % 4) = Y at *
      refine Api.of_fin cfg_ok Try.func7 rfl (nt := 84) rfl rfl ?_
      conv => whnf
      repeat' (first
        | exact trivial
        | ((first | refine .inl ⟨in64 (by omega) (by omega), ?_⟩ | refine .inl ⟨inU64 (by omega) (by omega), ?_⟩ | refine .inl ⟨inU8 (by omega) (by omega), ?_⟩); (conv => whnf))
        | ((refine ⟨fun hb => ?_, fun hb => ?_⟩) <;> (try simp only [decide_eq_true_eq, decide_eq_false_iff_not, Int.not_lt, Int.not_le, beq_iff_eq, beq_eq_false_iff_ne, bne_iff_ne, bne_eq_false_iff_eq, ne_eq, Decidable.not_not, Bool.not_eq_true', Bool.not_eq_false', Bool.not_eq_true, Bool.not_eq_false, Int.toNat_natCast, Bool.and_eq_true, Bool.or_eq_true, Bool.and_eq_false_iff, Bool.or_eq_false_iff, List.length_nil, List.length_cons] at hb) <;> (first | (exfalso; omega) | contradiction | exact Bool.noConfusion (show true = false from hb.symm.trans (by assumption)) | exact Bool.noConfusion (show false = true from hb.symm.trans (by assumption)) | (conv => whnf)))
        | ((first | (refine callApi (hgr) rfl rfl ?_) | (refine callApiD (hgr) rfl rfl ?_) | (refine callApi (haw) rfl rfl ?_) | (refine callApiD (haw) rfl rfl ?_) | (refine callApi (h1) rfl rfl ?_) | (refine callApiD (h1) rfl rfl ?_) | (refine callApi (h2) rfl rfl ?_) | (refine callApiD (h2) rfl rfl ?_) | refine Draws.of cfg_ok (by kernel_rfl) ?_ | refine ⟨(by kernel_rfl : confB _ _ _ _ _ = true), ?_⟩ | refine ⟨by (first | omega | (simp only [lens, Int.toNat_natCast, bsz, Nat.zero_mul, Nat.zero_add]; omega)), ?_⟩ | refine .inl ⟨by omega, by omega, ?_⟩ | refine .inr ⟨⟨by (first | omega | (simp only [lens, Int.toNat_natCast, bsz, Nat.zero_mul, Nat.zero_add]; omega)), by (first | omega | (simp only [lens, Int.toNat_natCast, bsz, Nat.zero_mul, Nat.zero_add]; omega))⟩, ?_⟩ | refine .inl ⟨⟨by (first | omega | (simp only [lens, Int.toNat_natCast, bsz, Nat.zero_mul, Nat.zero_add]; omega)), by (first | omega | (simp only [lens, Int.toNat_natCast, bsz, Nat.zero_mul, Nat.zero_add]; omega))⟩, ?_⟩ | refine ⟨rfl, ?_⟩ | refine ⟨congrArg (Value.int _) (by omega), ?_⟩); (conv => whnf))
        | (refine And.intro ?_ ?_; rotate_left; (conv => whnf); rotate_right))
      all_goals first | omega | rfl | trace_state

end Go.Proofs.Ytelgmmcnopjolaa
