
/- TradeAlone. -/
import Derived.Test.YtdbnihckckekcaaTLaw
set_option linter.unusedSimpArgs false
set_option linter.unusedVariables false
namespace Go.Proofs.Ytdbnihckckekcaa
open Go Go.RowKit Eng

theorem alone_law {p q : Player} (hp : mayB p = true) (hq : mayB q = true) (hne : ¬ p.id = q.id) (t : Int) (h1 : 0 ≤ t) (h2 : t ≤ 1073741824) (h3 : ¬ t = p.id) (h4 : ¬ t = q.id) :
    mayB { p with wth := t, offer := newB8 } = true ∧ (∀ a n, offerP { p with wth := t, offer := newB8 } q a n = ({ p with wth := t, offer := newB8 }, q, 108)) ∧
    agreeP { p with wth := t, offer := newB8 } q = ({ p with wth := t, offer := newB8 }, q, false, 108) ∧ cancelP { p with wth := t, offer := newB8 } q = ({ p with wth := t, offer := newB8 }, q, 108) := by
  have hp' := mayB_iff.1 hp
  have hm : mayB { p with wth := t, offer := newB8 } = true := by
    rw [mayB_iff]
    exact ⟨hp'.1, hp'.2.1, hp'.2.2.1, hp'.2.2.2.1, hp'.2.2.2.2.1, .inr ⟨h1, h2, h3, rfl, newB8_ok⟩⟩
  have hd : dealB { p with wth := t, offer := newB8 } q = true := dealB_iff.2 ⟨hne, hm, hq⟩
  refine ⟨hm, fun a n => ?_, ?_, ?_⟩
  · unfold offerP
    rw [if_neg (by rw [hd]; simp), if_pos (by dsimp only; omega)]
  · unfold agreeP
    rw [if_neg (by rw [hd]; simp), if_pos (by dsimp only; omega)]
  · unfold cancelP
    rw [if_neg (by rw [hd]; simp), if_pos (by dsimp only; omega)]

set_option maxRecDepth 100000 in
set_option maxHeartbeats 4000000 in
theorem alone14_api (p q : Player) (x0 x1 x2 : Int) (hp : OkP p) (hq : OkP q) (hx : -9223372036854775808 ≤ x2 ∧ x2 ≤ 9223372036854775807) : Api Try.prog 7 [playerV p, playerV q, .agg [i64 x0, i64 x1, i64 x2]] (bol true) := by
  have hpr := pair_api p q hp hq
  have haw := awake14_api
  cases hP : pairB p q with
  | false =>
    rw [hP] at hpr
    refine Api.of_fin cfg_ok Try.func7 rfl (nt := 119) rfl rfl ?_
    conv => whnf
    repeat' (first
      | exact trivial
      | ((first | refine .inl ⟨in64 (by omega) (by omega), ?_⟩ | refine .inl ⟨inU64 (by omega) (by omega), ?_⟩ | refine .inl ⟨inU8 (by omega) (by omega), ?_⟩); (conv => whnf))
      | ((refine ⟨fun hb => ?_, fun hb => ?_⟩) <;> (try simp only [decide_eq_true_eq, decide_eq_false_iff_not, Int.not_lt, Int.not_le, beq_iff_eq, beq_eq_false_iff_ne, bne_iff_ne, bne_eq_false_iff_eq, ne_eq, Decidable.not_not, Bool.not_eq_true', Bool.not_eq_false', Bool.not_eq_true, Bool.not_eq_false, Int.toNat_natCast, Bool.and_eq_true, Bool.or_eq_true, Bool.and_eq_false_iff, Bool.or_eq_false_iff, List.length_nil, List.length_cons] at hb) <;> (first | (exfalso; omega) | contradiction | exact Bool.noConfusion (show true = false from hb.symm.trans (by assumption)) | exact Bool.noConfusion (show false = true from hb.symm.trans (by assumption)) | (conv => whnf)))
      | ((first | (refine callApi (hpr) rfl rfl ?_) | (refine callApiD (hpr) rfl rfl ?_) | (refine callApi (haw) rfl rfl ?_) | (refine callApiD (haw) rfl rfl ?_) | refine Draws.of cfg_ok (by kernel_rfl) ?_ | refine ⟨(by kernel_rfl : confB _ _ _ _ _ = true), ?_⟩ | refine ⟨by (first | omega | (simp only [lens, Int.toNat_natCast, bsz, Nat.zero_mul, Nat.zero_add]; omega)), ?_⟩ | refine .inl ⟨by omega, by omega, ?_⟩ | refine .inr ⟨⟨by (first | omega | (simp only [lens, Int.toNat_natCast, bsz, Nat.zero_mul, Nat.zero_add]; omega)), by (first | omega | (simp only [lens, Int.toNat_natCast, bsz, Nat.zero_mul, Nat.zero_add]; omega))⟩, ?_⟩ | refine .inl ⟨⟨by (first | omega | (simp only [lens, Int.toNat_natCast, bsz, Nat.zero_mul, Nat.zero_add]; omega)), by (first | omega | (simp only [lens, Int.toNat_natCast, bsz, Nat.zero_mul, Nat.zero_add]; omega))⟩, ?_⟩ | refine ⟨rfl, ?_⟩ | refine ⟨congrArg (Value.int _) (by omega), ?_⟩); (conv => whnf))
      | (refine And.intro ?_ ?_; rotate_left; (conv => whnf); rotate_right))
  | true =>
    rw [hP] at hpr
    simp only [pairB, Bool.and_eq_true, Bool.not_eq_true', decide_eq_false_iff_not, decide_eq_true_eq] at hP
    obtain ⟨_, hne, hmp, hmq⟩ := hP
    have hnew := new_api 8 (by omega) (by omega)
    change Api _ _ _ (.vec .slot newB8) at hnew
    obtain ⟨t, ht⟩ : ∃ t : Int, t = if Int.tmod x2 2 = 0 then 1073741824 else 1073741823 := ⟨_, rfl⟩
    have ht0 : 0 ≤ t ∧ t ≤ 1073741824 := by rw [ht]; split <;> omega
    by_cases he : t = p.id ∨ t = q.id
    · by_cases h2 : Int.tmod x2 2 = 0
      · rw [if_pos h2] at ht
        refine Api.of_fin cfg_ok Try.func7 rfl (nt := 119) rfl rfl ?_
        conv => whnf
        repeat' (first
          | exact trivial
          | ((first | refine .inl ⟨in64 (by omega) (by omega), ?_⟩ | refine .inl ⟨inU64 (by omega) (by omega), ?_⟩ | refine .inl ⟨inU8 (by omega) (by omega), ?_⟩); (conv => whnf))
          | ((refine ⟨fun hb => ?_, fun hb => ?_⟩) <;> (try simp only [decide_eq_true_eq, decide_eq_false_iff_not, Int.not_lt, Int.not_le, beq_iff_eq, beq_eq_false_iff_ne, bne_iff_ne, bne_eq_false_iff_eq, ne_eq, Decidable.not_not, Bool.not_eq_true', Bool.not_eq_false', Bool.not_eq_true, Bool.not_eq_false, Int.toNat_natCast, Bool.and_eq_true, Bool.or_eq_true, Bool.and_eq_false_iff, Bool.or_eq_false_iff, List.length_nil, List.length_cons] at hb) <;> (first | (exfalso; omega) | contradiction | exact Bool.noConfusion (show true = false from hb.symm.trans (by assumption)) | exact Bool.noConfusion (show false = true from hb.symm.trans (by assumption)) | (conv => whnf)))
          | (refine .inr ⟨(by decide : (2 : Int) ≠ 0), ?_⟩; (conv => whnf))
          | ((first | (refine callApi (hpr) rfl rfl ?_) | (refine callApiD (hpr) rfl rfl ?_) | (refine callApi (haw) rfl rfl ?_) | (refine callApiD (haw) rfl rfl ?_) | refine Draws.of cfg_ok (by kernel_rfl) ?_ | refine ⟨(by kernel_rfl : confB _ _ _ _ _ = true), ?_⟩ | refine ⟨by (first | omega | (simp only [lens, Int.toNat_natCast, bsz, Nat.zero_mul, Nat.zero_add]; omega)), ?_⟩ | refine .inl ⟨by omega, by omega, ?_⟩ | refine .inr ⟨⟨by (first | omega | (simp only [lens, Int.toNat_natCast, bsz, Nat.zero_mul, Nat.zero_add]; omega)), by (first | omega | (simp only [lens, Int.toNat_natCast, bsz, Nat.zero_mul, Nat.zero_add]; omega))⟩, ?_⟩ | refine .inl ⟨⟨by (first | omega | (simp only [lens, Int.toNat_natCast, bsz, Nat.zero_mul, Nat.zero_add]; omega)), by (first | omega | (simp only [lens, Int.toNat_natCast, bsz, Nat.zero_mul, Nat.zero_add]; omega))⟩, ?_⟩ | refine ⟨rfl, ?_⟩ | refine ⟨congrArg (Value.int _) (by omega), ?_⟩); (conv => whnf))
          | (refine And.intro ?_ ?_; rotate_left; (conv => whnf); rotate_right))
        all_goals trace_state
      · rw [if_neg h2] at ht
        refine Api.of_fin cfg_ok Try.func7 rfl (nt := 119) rfl rfl ?_
        conv => whnf
        repeat' (first
          | exact trivial
          | ((first | refine .inl ⟨in64 (by omega) (by omega), ?_⟩ | refine .inl ⟨inU64 (by omega) (by omega), ?_⟩ | refine .inl ⟨inU8 (by omega) (by omega), ?_⟩); (conv => whnf))
          | ((refine ⟨fun hb => ?_, fun hb => ?_⟩) <;> (try simp only [decide_eq_true_eq, decide_eq_false_iff_not, Int.not_lt, Int.not_le, beq_iff_eq, beq_eq_false_iff_ne, bne_iff_ne, bne_eq_false_iff_eq, ne_eq, Decidable.not_not, Bool.not_eq_true', Bool.not_eq_false', Bool.not_eq_true, Bool.not_eq_false, Int.toNat_natCast, Bool.and_eq_true, Bool.or_eq_true, Bool.and_eq_false_iff, Bool.or_eq_false_iff, List.length_nil, List.length_cons] at hb) <;> (first | (exfalso; omega) | contradiction | exact Bool.noConfusion (show true = false from hb.symm.trans (by assumption)) | exact Bool.noConfusion (show false = true from hb.symm.trans (by assumption)) | (conv => whnf)))
          | (refine .inr ⟨(by decide : (2 : Int) ≠ 0), ?_⟩; (conv => whnf))
          | ((first | (refine callApi (hpr) rfl rfl ?_) | (refine callApiD (hpr) rfl rfl ?_) | (refine callApi (haw) rfl rfl ?_) | (refine callApiD (haw) rfl rfl ?_) | refine Draws.of cfg_ok (by kernel_rfl) ?_ | refine ⟨(by kernel_rfl : confB _ _ _ _ _ = true), ?_⟩ | refine ⟨by (first | omega | (simp only [lens, Int.toNat_natCast, bsz, Nat.zero_mul, Nat.zero_add]; omega)), ?_⟩ | refine .inl ⟨by omega, by omega, ?_⟩ | refine .inr ⟨⟨by (first | omega | (simp only [lens, Int.toNat_natCast, bsz, Nat.zero_mul, Nat.zero_add]; omega)), by (first | omega | (simp only [lens, Int.toNat_natCast, bsz, Nat.zero_mul, Nat.zero_add]; omega))⟩, ?_⟩ | refine .inl ⟨⟨by (first | omega | (simp only [lens, Int.toNat_natCast, bsz, Nat.zero_mul, Nat.zero_add]; omega)), by (first | omega | (simp only [lens, Int.toNat_natCast, bsz, Nat.zero_mul, Nat.zero_add]; omega))⟩, ?_⟩ | refine ⟨rfl, ?_⟩ | refine ⟨congrArg (Value.int _) (by omega), ?_⟩); (conv => whnf))
          | (refine And.intro ?_ ?_; rotate_left; (conv => whnf); rotate_right))
        all_goals trace_state
    · obtain ⟨hm, l1, l2, l3⟩ := alone_law hmp hmq hne t ht0.1 ht0.2 (fun e => he (.inl e)) (fun e => he (.inr e))
      have o1 := offer_api { p with wth := t, offer := newB8 } q x0 x1 (okP_of hm) hq
      have o2 := agree_api { p with wth := t, offer := newB8 } q (okP_of hm) hq
      have o3 := cancel_api { p with wth := t, offer := newB8 } q (okP_of hm) hq
      rw [l1] at o1
      rw [l2] at o2
      rw [l3] at o3
      have s1 := sameP_self { p with wth := t, offer := newB8 } (okP_of hm)
      have s2 := sameP_self q hq
      dsimp only at o1 o2 o3 s1
      clear l1 l2 l3
      generalize newB8 = NB at *
      by_cases h2 : Int.tmod x2 2 = 0
      · rw [if_pos h2] at ht
        subst ht
        refine Api.of_fin cfg_ok Try.func7 rfl (nt := 119) rfl rfl ?_
        conv => whnf
        repeat' (first
          | exact trivial
          | ((first | refine .inl ⟨in64 (by omega) (by omega), ?_⟩ | refine .inl ⟨inU64 (by omega) (by omega), ?_⟩ | refine .inl ⟨inU8 (by omega) (by omega), ?_⟩); (conv => whnf))
          | ((refine ⟨fun hb => ?_, fun hb => ?_⟩) <;> (try simp only [decide_eq_true_eq, decide_eq_false_iff_not, Int.not_lt, Int.not_le, beq_iff_eq, beq_eq_false_iff_ne, bne_iff_ne, bne_eq_false_iff_eq, ne_eq, Decidable.not_not, Bool.not_eq_true', Bool.not_eq_false', Bool.not_eq_true, Bool.not_eq_false, Int.toNat_natCast, Bool.and_eq_true, Bool.or_eq_true, Bool.and_eq_false_iff, Bool.or_eq_false_iff, List.length_nil, List.length_cons] at hb) <;> (first | (exfalso; omega) | contradiction | exact Bool.noConfusion (show true = false from hb.symm.trans (by assumption)) | exact Bool.noConfusion (show false = true from hb.symm.trans (by assumption)) | (conv => whnf)))
          | (refine .inr ⟨(by decide : (2 : Int) ≠ 0), ?_⟩; (conv => whnf))
          | ((first | (refine callApi (hpr) rfl rfl ?_) | (refine callApiD (hpr) rfl rfl ?_) | (refine callApi (haw) rfl rfl ?_) | (refine callApiD (haw) rfl rfl ?_) | (refine callApi (hnew) rfl rfl ?_) | (refine callApiD (hnew) rfl rfl ?_) | (refine callApi (o1) rfl rfl ?_) | (refine callApiD (o1) rfl rfl ?_) | (refine callApi (o2) rfl rfl ?_) | (refine callApiD (o2) rfl rfl ?_) | (refine callApi (o3) rfl rfl ?_) | (refine callApiD (o3) rfl rfl ?_) | (refine callApi (s1) rfl rfl ?_) | (refine callApiD (s1) rfl rfl ?_) | (refine callApi (s2) rfl rfl ?_) | (refine callApiD (s2) rfl rfl ?_) | refine Draws.of cfg_ok (by kernel_rfl) ?_ | refine ⟨(by kernel_rfl : confB _ _ _ _ _ = true), ?_⟩ | refine ⟨by (first | omega | (simp only [lens, Int.toNat_natCast, bsz, Nat.zero_mul, Nat.zero_add]; omega)), ?_⟩ | refine .inl ⟨by omega, by omega, ?_⟩ | refine .inr ⟨⟨by (first | omega | (simp only [lens, Int.toNat_natCast, bsz, Nat.zero_mul, Nat.zero_add]; omega)), by (first | omega | (simp only [lens, Int.toNat_natCast, bsz, Nat.zero_mul, Nat.zero_add]; omega))⟩, ?_⟩ | refine .inl ⟨⟨by (first | omega | (simp only [lens, Int.toNat_natCast, bsz, Nat.zero_mul, Nat.zero_add]; omega)), by (first | omega | (simp only [lens, Int.toNat_natCast, bsz, Nat.zero_mul, Nat.zero_add]; omega))⟩, ?_⟩ | refine ⟨rfl, ?_⟩ | refine ⟨congrArg (Value.int _) (by omega), ?_⟩); (conv => whnf))
          | (refine And.intro ?_ ?_; rotate_left; (conv => whnf); rotate_right))
        all_goals trace_state
      · rw [if_neg h2] at ht
        subst ht
        refine Api.of_fin cfg_ok Try.func7 rfl (nt := 119) rfl rfl ?_
        conv => whnf
        repeat' (first
          | exact trivial
          | ((first | refine .inl ⟨in64 (by omega) (by omega), ?_⟩ | refine .inl ⟨inU64 (by omega) (by omega), ?_⟩ | refine .inl ⟨inU8 (by omega) (by omega), ?_⟩); (conv => whnf))
          | ((refine ⟨fun hb => ?_, fun hb => ?_⟩) <;> (try simp only [decide_eq_true_eq, decide_eq_false_iff_not, Int.not_lt, Int.not_le, beq_iff_eq, beq_eq_false_iff_ne, bne_iff_ne, bne_eq_false_iff_eq, ne_eq, Decidable.not_not, Bool.not_eq_true', Bool.not_eq_false', Bool.not_eq_true, Bool.not_eq_false, Int.toNat_natCast, Bool.and_eq_true, Bool.or_eq_true, Bool.and_eq_false_iff, Bool.or_eq_false_iff, List.length_nil, List.length_cons] at hb) <;> (first | (exfalso; omega) | contradiction | exact Bool.noConfusion (show true = false from hb.symm.trans (by assumption)) | exact Bool.noConfusion (show false = true from hb.symm.trans (by assumption)) | (conv => whnf)))
          | (refine .inr ⟨(by decide : (2 : Int) ≠ 0), ?_⟩; (conv => whnf))
          | ((first | (refine callApi (hpr) rfl rfl ?_) | (refine callApiD (hpr) rfl rfl ?_) | (refine callApi (haw) rfl rfl ?_) | (refine callApiD (haw) rfl rfl ?_) | (refine callApi (hnew) rfl rfl ?_) | (refine callApiD (hnew) rfl rfl ?_) | (refine callApi (o1) rfl rfl ?_) | (refine callApiD (o1) rfl rfl ?_) | (refine callApi (o2) rfl rfl ?_) | (refine callApiD (o2) rfl rfl ?_) | (refine callApi (o3) rfl rfl ?_) | (refine callApiD (o3) rfl rfl ?_) | (refine callApi (s1) rfl rfl ?_) | (refine callApiD (s1) rfl rfl ?_) | (refine callApi (s2) rfl rfl ?_) | (refine callApiD (s2) rfl rfl ?_) | refine Draws.of cfg_ok (by kernel_rfl) ?_ | refine ⟨(by kernel_rfl : confB _ _ _ _ _ = true), ?_⟩ | refine ⟨by (first | omega | (simp only [lens, Int.toNat_natCast, bsz, Nat.zero_mul, Nat.zero_add]; omega)), ?_⟩ | refine .inl ⟨by omega, by omega, ?_⟩ | refine .inr ⟨⟨by (first | omega | (simp only [lens, Int.toNat_natCast, bsz, Nat.zero_mul, Nat.zero_add]; omega)), by (first | omega | (simp only [lens, Int.toNat_natCast, bsz, Nat.zero_mul, Nat.zero_add]; omega))⟩, ?_⟩ | refine .inl ⟨⟨by (first | omega | (simp only [lens, Int.toNat_natCast, bsz, Nat.zero_mul, Nat.zero_add]; omega)), by (first | omega | (simp only [lens, Int.toNat_natCast, bsz, Nat.zero_mul, Nat.zero_add]; omega))⟩, ?_⟩ | refine ⟨rfl, ?_⟩ | refine ⟨congrArg (Value.int _) (by omega), ?_⟩); (conv => whnf))
          | (refine And.intro ?_ ?_; rotate_left; (conv => whnf); rotate_right))
        all_goals trace_state

end Go.Proofs.Ytdbnihckckekcaa
