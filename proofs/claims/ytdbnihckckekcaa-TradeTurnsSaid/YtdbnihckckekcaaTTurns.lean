
/- TradeTurns. -/
import Derived.Test.YtdbnihckckekcaaTCancels
set_option linter.unusedSimpArgs false
set_option linter.unusedVariables false
namespace Go.Proofs.Ytdbnihckckekcaa
open Go Go.RowKit Eng

def yes (p : Player) : Player := { p with agrees := true }
theorem may_yes {p : Player} (h : mayB p = true) (hw : ¬ p.wth = -1) : mayB (yes p) = true := by
  have h := mayB_iff.1 h
  rw [mayB_iff]
  refine ⟨h.1, h.2.1, h.2.2.1, h.2.2.2.1, h.2.2.2.2.1, ?_⟩
  rcases h.2.2.2.2.2 with h | h
  · exact absurd h.1 hw
  · exact .inr h
theorem offer_ok {p q : Player} {x n : Int} (h : (offerP p q x n).2.2 = 0) : (offerP p q x n).1.wth = q.id ∧ (offerP p q x n).1.agrees = false ∧ (offerP p q x n).2.1 = waverP q p.id ∧ (offerP p q x n).1.id = p.id := by
  unfold offerP at h ⊢
  generalize (if p.wth = -1 then newB8 else p.offer) = O at h ⊢
  split at h
  · cases h
  · rename_i h1
    split at h
    · cases h
    · rename_i h2
      split at h
      · rename_i h3; exact absurd h h3
      · rename_i h3
        split at h
        · cases h
        · rename_i h4
          rw [if_neg h1, if_neg h2, if_neg h3, if_neg h4]
          exact ⟨rfl, rfl, rfl, rfl⟩
theorem turns_law {P Q : Player} (hp : mayB P = true) (hq : mayB Q = true) (hne : ¬ P.id = Q.id) (h1 : P.wth = Q.id) (h2 : Q.wth = P.id) (h3 : P.agrees = false) (h4 : Q.agrees = false) :
    mayB (yes P) = true ∧ mayB (yes Q) = true ∧ agreeP P Q = (yes P, Q, false, 0) ∧ agreeP Q P = (yes Q, P, false, 0) ∧
    (∀ x n, (offerP Q (yes P) x n).2.2 = 0 → (offerP Q (yes P) x n).1.agrees = false ∧ (offerP Q (yes P) x n).2.1.agrees = false) ∧
    ((agreeP Q (yes P) = (Q, yes P, false, 104) ∧ agreeP P (yes Q) = (P, yes Q, false, 104)) ∨
      ∃ A B, agreeP Q (yes P) = (freeP Q A, freeP P B, true, 0) ∧ agreeP P (yes Q) = (freeP P B, freeP Q A, true, 0) ∧ mayB (freeP Q A) = true ∧ mayB (freeP P B) = true) := by
  have hp' := mayB_iff.1 hp
  have hq' := mayB_iff.1 hq
  have y1 := may_yes hp (by omega)
  have y2 := may_yes hq (by omega)
  have d1 : dealB P Q = true := dealB_iff.2 ⟨hne, hp, hq⟩
  have d2 : dealB Q P = true := dealB_iff.2 ⟨fun e => hne e.symm, hq, hp⟩
  have d3 : dealB Q (yes P) = true := dealB_iff.2 ⟨fun e => hne e.symm, hq, y1⟩
  have d4 : dealB P (yes Q) = true := dealB_iff.2 ⟨hne, hp, y2⟩
  refine ⟨y1, y2, ?_, ?_, fun x n h => ?_, ?_⟩
  · unfold agreeP
    rw [if_neg (by rw [d1]; simp), if_neg (by omega), if_pos h4]; rfl
  · unfold agreeP
    rw [if_neg (by rw [d2]; simp), if_neg (by omega), if_pos h3]; rfl
  · obtain ⟨e1, e2, e3, e4⟩ := offer_ok h
    refine ⟨e2, ?_⟩
    rw [e3]
    simp [waverP, yes, h1]
  · by_cases hx : ¬ (allS Q.bag P.offer).2 = 0 ∨ ¬ (allS P.bag Q.offer).2 = 0
    · left
      constructor
      · unfold agreeP
        rw [if_neg (by rw [d3]; simp), if_neg (by simp only [yes]; omega), if_neg (by simp [yes]), if_pos (by simpa only [yes] using hx)]
      · unfold agreeP
        rw [if_neg (by rw [d4]; simp), if_neg (by simp only [yes]; omega), if_neg (by simp [yes]), if_pos (by simp only [yes]; exact hx.symm)]
    · right
      have x1 : (allS Q.bag P.offer).2 = 0 := by omega
      have x2 : (allS P.bag Q.offer).2 = 0 := by omega
      obtain ⟨a1, a2, _⟩ := allS_props x1
      obtain ⟨b1, b2, _⟩ := allS_props x2
      refine ⟨(allS Q.bag P.offer).1, (allS P.bag Q.offer).1, ?_, ?_, free_may hq (by rw [a1]; exact hq'.2.2.1) a2, free_may hp (by rw [b1]; exact hp'.2.2.1) b2⟩
      · unfold agreeP
        rw [if_neg (by rw [d3]; simp), if_neg (by simp only [yes]; omega), if_neg (by simp [yes]), if_neg (by simpa only [yes] using hx)]; rfl
      · unfold agreeP
        rw [if_neg (by rw [d4]; simp), if_neg (by simp only [yes]; omega), if_neg (by simp [yes]), if_neg (by simp only [yes]; omega)]; rfl

set_option maxRecDepth 100000 in
set_option maxHeartbeats 4000000 in
theorem turns_api (p q : Player) (x0 x1 x2 x3 : Int) (hp : OkP p) (hq : OkP q) : Api Try.prog 3 [playerV p, playerV q, .agg [i64 x0, i64 x1, i64 x2, i64 x3]] (bol true) := by
  have hpr := pair_api p q hp hq
  have haw := awake14_api
  cases hP : pairB p q with
  | false =>
    rw [hP] at hpr
    refine Api.of_fin cfg_ok Try.func3 rfl (nt := 187) rfl rfl ?_
    conv => whnf
    repeat' (first
      | exact trivial
      | ((first | refine .inl ⟨in64 (by omega) (by omega), ?_⟩ | refine .inl ⟨inU64 (by omega) (by omega), ?_⟩ | refine .inl ⟨inU8 (by omega) (by omega), ?_⟩); (conv => whnf))
      | ((refine ⟨fun hb => ?_, fun hb => ?_⟩) <;> (try simp only [decide_eq_true_eq, decide_eq_false_iff_not, Int.not_lt, Int.not_le, beq_iff_eq, beq_eq_false_iff_ne, bne_iff_ne, bne_eq_false_iff_eq, ne_eq, Decidable.not_not, Bool.not_eq_true', Bool.not_eq_false', Bool.not_eq_true, Bool.not_eq_false, Int.toNat_natCast, Bool.and_eq_true, Bool.or_eq_true, Bool.and_eq_false_iff, Bool.or_eq_false_iff, List.length_nil, List.length_cons] at hb) <;> (first | (exfalso; omega) | contradiction | exact Bool.noConfusion (show true = false from hb.symm.trans (by assumption)) | exact Bool.noConfusion (show false = true from hb.symm.trans (by assumption)) | (conv => whnf)))
      | ((first | (refine callApi (hpr) rfl rfl ?_) | (refine callApiD (hpr) rfl rfl ?_) | (refine callApi (haw) rfl rfl ?_) | (refine callApiD (haw) rfl rfl ?_) | refine Draws.of cfg_ok (by kernel_rfl) ?_ | refine ⟨(by kernel_rfl : confB _ _ _ _ _ = true), ?_⟩ | refine ⟨by (first | omega | (simp only [lens, Int.toNat_natCast, bsz, Nat.zero_mul, Nat.zero_add]; omega)), ?_⟩ | refine .inl ⟨by omega, by omega, ?_⟩ | refine .inr ⟨⟨by (first | omega | (simp only [lens, Int.toNat_natCast, bsz, Nat.zero_mul, Nat.zero_add]; omega)), by (first | omega | (simp only [lens, Int.toNat_natCast, bsz, Nat.zero_mul, Nat.zero_add]; omega))⟩, ?_⟩ | refine .inl ⟨⟨by (first | omega | (simp only [lens, Int.toNat_natCast, bsz, Nat.zero_mul, Nat.zero_add]; omega)), by (first | omega | (simp only [lens, Int.toNat_natCast, bsz, Nat.zero_mul, Nat.zero_add]; omega))⟩, ?_⟩ | refine ⟨rfl, ?_⟩ | refine ⟨congrArg (Value.int _) (by omega), ?_⟩); (conv => whnf))
      | (refine And.intro ?_ ?_; rotate_left; (conv => whnf); rotate_right))
  | true =>
    rw [hP] at hpr
    simp only [pairB, Bool.and_eq_true, Bool.not_eq_true', decide_eq_false_iff_not, decide_eq_true_eq] at hP
    obtain ⟨_, hne, hmp, hmq⟩ := hP
    have f1 := lfree_api p
    have f2 := lfree_api q
    have hm1 := may_lfree hmp
    have hm2 := may_lfree hmq
    have o1 := offer_api (lfree p) (lfree q) x0 x1 (okP_of hm1) (okP_of hm2)
    have k1 := offer_kept hm1 hm2 hne x0 x1
    have w1 := offer_ok (p := lfree p) (q := lfree q) (x := x0) (n := x1)
    change Api _ _ _ (playerV (lfree p)) at f1
    change Api _ _ _ (playerV (lfree q)) at f2
    have z1 : (lfree p).agrees = false := rfl
    have z2 : (lfree q).agrees = false := rfl
    have z3 : (lfree q).id = q.id := rfl
    have z4 : (lfree p).id = p.id := rfl
    generalize lfree p = P0 at *
    generalize lfree q = Q0 at *
    have k1a := k1.ma
    have k1b := k1.mb
    have o2 := offer_api (offerP P0 Q0 x0 x1).2.1 (offerP P0 Q0 x0 x1).1 x2 x3 (okP_of k1b) (okP_of k1a)
    have k2 := offer_kept k1b k1a (by rw [k1.ia, k1.ib]; omega) x2 x3
    have w2 := offer_ok (p := (offerP P0 Q0 x0 x1).2.1) (q := (offerP P0 Q0 x0 x1).1) (x := x2) (n := x3)
    have i1 := k1.ia
    have i2 := k1.ib
    have i3 := k2.ia
    have i4 := k2.ib
    have k2a := k2.ma
    have k2b := k2.mb
    generalize offerP P0 Q0 x0 x1 = R at *
    obtain ⟨P1, Q1, e⟩ := R
    dsimp only at *
    generalize offerP Q1 P1 x2 x3 = T at *
    obtain ⟨Q2, P2, f⟩ := T
    dsimp only at *
    by_cases hef : e = 0 ∧ f = 0
    · obtain ⟨rfl, rfl⟩ := hef
      obtain ⟨u1, u2, u3, u4⟩ := w1 rfl
      obtain ⟨v1, v2, v3, v4⟩ := w2 rfl
      rw [waver_no _ z2] at u3
      subst u3
      rw [waver_no _ u2] at v3
      subst v3
      obtain ⟨y1, y2, l1, l2, l3, l4⟩ := turns_law k2b k2a (by rw [i3, i1]; omega) (by rw [u1, i3]) (by rw [v1]) u2 v2
      have a1 := agree_api P2 Q2 (okP_of k2b) (okP_of k2a)
      have a2 := agree_api Q2 P2 (okP_of k2a) (okP_of k2b)
      rw [l1] at a1
      rw [l2] at a2
      have a3 := offer_api Q2 (yes P2) x2 1 (okP_of k2a) (okP_of y1)
      have l3' := l3 x2 1
      generalize offerP Q2 (yes P2) x2 1 = U at *
      obtain ⟨U1, U2, h⟩ := U
      have a4 := agree_api Q2 (yes P2) (okP_of k2a) (okP_of y1)
      have a5 := agree_api P2 (yes Q2) (okP_of k2b) (okP_of y2)
      have s1 := sameP_self Q2 (okP_of k2a)
      have s2 := sameP_self (yes P2) (okP_of y1)
      have g1 : (yes P2).agrees = true := rfl
      dsimp only at *
      by_cases hh : h = 0
      · obtain ⟨h1, h2⟩ := l3' hh
        clear l3 l3'
        rcases l4 with ⟨m1, m2⟩ | ⟨A, B, m1, m2, m3, m4⟩
        · rw [m1] at a4
          rw [m2] at a5
          dsimp only at *
          generalize yes P2 = PY at *
          generalize yes Q2 = QY at *
          refine Api.of_fin cfg_ok Try.func3 rfl (nt := 187) rfl rfl ?_
          conv => whnf
          repeat' (first
            | exact trivial
            | ((first | refine .inl ⟨in64 (by omega) (by omega), ?_⟩ | refine .inl ⟨inU64 (by omega) (by omega), ?_⟩ | refine .inl ⟨inU8 (by omega) (by omega), ?_⟩); (conv => whnf))
            | ((refine ⟨fun hb => ?_, fun hb => ?_⟩) <;> (try simp only [decide_eq_true_eq, decide_eq_false_iff_not, Int.not_lt, Int.not_le, beq_iff_eq, beq_eq_false_iff_ne, bne_iff_ne, bne_eq_false_iff_eq, ne_eq, Decidable.not_not, Bool.not_eq_true', Bool.not_eq_false', Bool.not_eq_true, Bool.not_eq_false, Int.toNat_natCast, Bool.and_eq_true, Bool.or_eq_true, Bool.and_eq_false_iff, Bool.or_eq_false_iff, List.length_nil, List.length_cons] at hb) <;> (first | (exfalso; omega) | contradiction | exact Bool.noConfusion (show true = false from hb.symm.trans (by assumption)) | exact Bool.noConfusion (show false = true from hb.symm.trans (by assumption)) | (conv => whnf)))
            | ((first | (refine callApi (hpr) rfl rfl ?_) | (refine callApiD (hpr) rfl rfl ?_) | (refine callApi (haw) rfl rfl ?_) | (refine callApiD (haw) rfl rfl ?_) | (refine callApi (f1) rfl rfl ?_) | (refine callApiD (f1) rfl rfl ?_) | (refine callApi (f2) rfl rfl ?_) | (refine callApiD (f2) rfl rfl ?_) | (refine callApi (o1) rfl rfl ?_) | (refine callApiD (o1) rfl rfl ?_) | (refine callApi (o2) rfl rfl ?_) | (refine callApiD (o2) rfl rfl ?_) | (refine callApi (a1) rfl rfl ?_) | (refine callApiD (a1) rfl rfl ?_) | (refine callApi (a2) rfl rfl ?_) | (refine callApiD (a2) rfl rfl ?_) | (refine callApi (a3) rfl rfl ?_) | (refine callApiD (a3) rfl rfl ?_) | (refine callApi (a4) rfl rfl ?_) | (refine callApiD (a4) rfl rfl ?_) | (refine callApi (a5) rfl rfl ?_) | (refine callApiD (a5) rfl rfl ?_) | (refine callApi (s1) rfl rfl ?_) | (refine callApiD (s1) rfl rfl ?_) | (refine callApi (s2) rfl rfl ?_) | (refine callApiD (s2) rfl rfl ?_) | refine Draws.of cfg_ok (by kernel_rfl) ?_ | refine ⟨(by kernel_rfl : confB _ _ _ _ _ = true), ?_⟩ | refine ⟨by (first | omega | (simp only [lens, Int.toNat_natCast, bsz, Nat.zero_mul, Nat.zero_add]; omega)), ?_⟩ | refine .inl ⟨by omega, by omega, ?_⟩ | refine .inr ⟨⟨by (first | omega | (simp only [lens, Int.toNat_natCast, bsz, Nat.zero_mul, Nat.zero_add]; omega)), by (first | omega | (simp only [lens, Int.toNat_natCast, bsz, Nat.zero_mul, Nat.zero_add]; omega))⟩, ?_⟩ | refine .inl ⟨⟨by (first | omega | (simp only [lens, Int.toNat_natCast, bsz, Nat.zero_mul, Nat.zero_add]; omega)), by (first | omega | (simp only [lens, Int.toNat_natCast, bsz, Nat.zero_mul, Nat.zero_add]; omega))⟩, ?_⟩ | refine ⟨rfl, ?_⟩ | refine ⟨congrArg (Value.int _) (by omega), ?_⟩); (conv => whnf))
            | (refine And.intro ?_ ?_; rotate_left; (conv => whnf); rotate_right))
          all_goals trace_state
        · rw [m1] at a4
          rw [m2] at a5
          have s3 := sameP_self _ (okP_of m3)
          have s4 := sameP_self _ (okP_of m4)
          have g2 : (freeP Q2 A).wth = -1 := rfl
          have g3 : (freeP P2 B).wth = -1 := rfl
          dsimp only at *
          generalize yes P2 = PY at *
          generalize yes Q2 = QY at *
          generalize freeP Q2 A = FA at *
          generalize freeP P2 B = FB at *
          refine Api.of_fin cfg_ok Try.func3 rfl (nt := 187) rfl rfl ?_
          conv => whnf
          repeat' (first
            | exact trivial
            | ((first | refine .inl ⟨in64 (by omega) (by omega), ?_⟩ | refine .inl ⟨inU64 (by omega) (by omega), ?_⟩ | refine .inl ⟨inU8 (by omega) (by omega), ?_⟩); (conv => whnf))
            | ((refine ⟨fun hb => ?_, fun hb => ?_⟩) <;> (try simp only [decide_eq_true_eq, decide_eq_false_iff_not, Int.not_lt, Int.not_le, beq_iff_eq, beq_eq_false_iff_ne, bne_iff_ne, bne_eq_false_iff_eq, ne_eq, Decidable.not_not, Bool.not_eq_true', Bool.not_eq_false', Bool.not_eq_true, Bool.not_eq_false, Int.toNat_natCast, Bool.and_eq_true, Bool.or_eq_true, Bool.and_eq_false_iff, Bool.or_eq_false_iff, List.length_nil, List.length_cons] at hb) <;> (first | (exfalso; omega) | contradiction | exact Bool.noConfusion (show true = false from hb.symm.trans (by assumption)) | exact Bool.noConfusion (show false = true from hb.symm.trans (by assumption)) | (conv => whnf)))
            | ((first | (refine callApi (hpr) rfl rfl ?_) | (refine callApiD (hpr) rfl rfl ?_) | (refine callApi (haw) rfl rfl ?_) | (refine callApiD (haw) rfl rfl ?_) | (refine callApi (f1) rfl rfl ?_) | (refine callApiD (f1) rfl rfl ?_) | (refine callApi (f2) rfl rfl ?_) | (refine callApiD (f2) rfl rfl ?_) | (refine callApi (o1) rfl rfl ?_) | (refine callApiD (o1) rfl rfl ?_) | (refine callApi (o2) rfl rfl ?_) | (refine callApiD (o2) rfl rfl ?_) | (refine callApi (a1) rfl rfl ?_) | (refine callApiD (a1) rfl rfl ?_) | (refine callApi (a2) rfl rfl ?_) | (refine callApiD (a2) rfl rfl ?_) | (refine callApi (a3) rfl rfl ?_) | (refine callApiD (a3) rfl rfl ?_) | (refine callApi (a4) rfl rfl ?_) | (refine callApiD (a4) rfl rfl ?_) | (refine callApi (a5) rfl rfl ?_) | (refine callApiD (a5) rfl rfl ?_) | (refine callApi (s1) rfl rfl ?_) | (refine callApiD (s1) rfl rfl ?_) | (refine callApi (s2) rfl rfl ?_) | (refine callApiD (s2) rfl rfl ?_) | (refine callApi (s3) rfl rfl ?_) | (refine callApiD (s3) rfl rfl ?_) | (refine callApi (s4) rfl rfl ?_) | (refine callApiD (s4) rfl rfl ?_) | refine Draws.of cfg_ok (by kernel_rfl) ?_ | refine ⟨(by kernel_rfl : confB _ _ _ _ _ = true), ?_⟩ | refine ⟨by (first | omega | (simp only [lens, Int.toNat_natCast, bsz, Nat.zero_mul, Nat.zero_add]; omega)), ?_⟩ | refine .inl ⟨by omega, by omega, ?_⟩ | refine .inr ⟨⟨by (first | omega | (simp only [lens, Int.toNat_natCast, bsz, Nat.zero_mul, Nat.zero_add]; omega)), by (first | omega | (simp only [lens, Int.toNat_natCast, bsz, Nat.zero_mul, Nat.zero_add]; omega))⟩, ?_⟩ | refine .inl ⟨⟨by (first | omega | (simp only [lens, Int.toNat_natCast, bsz, Nat.zero_mul, Nat.zero_add]; omega)), by (first | omega | (simp only [lens, Int.toNat_natCast, bsz, Nat.zero_mul, Nat.zero_add]; omega))⟩, ?_⟩ | refine ⟨rfl, ?_⟩ | refine ⟨congrArg (Value.int _) (by omega), ?_⟩); (conv => whnf))
            | (refine And.intro ?_ ?_; rotate_left; (conv => whnf); rotate_right))
          all_goals trace_state
      · clear l3 l3'
        rcases l4 with ⟨m1, m2⟩ | ⟨A, B, m1, m2, m3, m4⟩
        · rw [m1] at a4
          rw [m2] at a5
          dsimp only at *
          generalize yes P2 = PY at *
          generalize yes Q2 = QY at *
          refine Api.of_fin cfg_ok Try.func3 rfl (nt := 187) rfl rfl ?_
          conv => whnf
          repeat' (first
            | exact trivial
            | ((first | refine .inl ⟨in64 (by omega) (by omega), ?_⟩ | refine .inl ⟨inU64 (by omega) (by omega), ?_⟩ | refine .inl ⟨inU8 (by omega) (by omega), ?_⟩); (conv => whnf))
            | ((refine ⟨fun hb => ?_, fun hb => ?_⟩) <;> (try simp only [decide_eq_true_eq, decide_eq_false_iff_not, Int.not_lt, Int.not_le, beq_iff_eq, beq_eq_false_iff_ne, bne_iff_ne, bne_eq_false_iff_eq, ne_eq, Decidable.not_not, Bool.not_eq_true', Bool.not_eq_false', Bool.not_eq_true, Bool.not_eq_false, Int.toNat_natCast, Bool.and_eq_true, Bool.or_eq_true, Bool.and_eq_false_iff, Bool.or_eq_false_iff, List.length_nil, List.length_cons] at hb) <;> (first | (exfalso; omega) | contradiction | exact Bool.noConfusion (show true = false from hb.symm.trans (by assumption)) | exact Bool.noConfusion (show false = true from hb.symm.trans (by assumption)) | (conv => whnf)))
            | ((first | (refine callApi (hpr) rfl rfl ?_) | (refine callApiD (hpr) rfl rfl ?_) | (refine callApi (haw) rfl rfl ?_) | (refine callApiD (haw) rfl rfl ?_) | (refine callApi (f1) rfl rfl ?_) | (refine callApiD (f1) rfl rfl ?_) | (refine callApi (f2) rfl rfl ?_) | (refine callApiD (f2) rfl rfl ?_) | (refine callApi (o1) rfl rfl ?_) | (refine callApiD (o1) rfl rfl ?_) | (refine callApi (o2) rfl rfl ?_) | (refine callApiD (o2) rfl rfl ?_) | (refine callApi (a1) rfl rfl ?_) | (refine callApiD (a1) rfl rfl ?_) | (refine callApi (a2) rfl rfl ?_) | (refine callApiD (a2) rfl rfl ?_) | (refine callApi (a3) rfl rfl ?_) | (refine callApiD (a3) rfl rfl ?_) | (refine callApi (a4) rfl rfl ?_) | (refine callApiD (a4) rfl rfl ?_) | (refine callApi (a5) rfl rfl ?_) | (refine callApiD (a5) rfl rfl ?_) | (refine callApi (s1) rfl rfl ?_) | (refine callApiD (s1) rfl rfl ?_) | (refine callApi (s2) rfl rfl ?_) | (refine callApiD (s2) rfl rfl ?_) | refine Draws.of cfg_ok (by kernel_rfl) ?_ | refine ⟨(by kernel_rfl : confB _ _ _ _ _ = true), ?_⟩ | refine ⟨by (first | omega | (simp only [lens, Int.toNat_natCast, bsz, Nat.zero_mul, Nat.zero_add]; omega)), ?_⟩ | refine .inl ⟨by omega, by omega, ?_⟩ | refine .inr ⟨⟨by (first | omega | (simp only [lens, Int.toNat_natCast, bsz, Nat.zero_mul, Nat.zero_add]; omega)), by (first | omega | (simp only [lens, Int.toNat_natCast, bsz, Nat.zero_mul, Nat.zero_add]; omega))⟩, ?_⟩ | refine .inl ⟨⟨by (first | omega | (simp only [lens, Int.toNat_natCast, bsz, Nat.zero_mul, Nat.zero_add]; omega)), by (first | omega | (simp only [lens, Int.toNat_natCast, bsz, Nat.zero_mul, Nat.zero_add]; omega))⟩, ?_⟩ | refine ⟨rfl, ?_⟩ | refine ⟨congrArg (Value.int _) (by omega), ?_⟩); (conv => whnf))
            | (refine And.intro ?_ ?_; rotate_left; (conv => whnf); rotate_right))
          all_goals trace_state
        · rw [m1] at a4
          rw [m2] at a5
          have s3 := sameP_self _ (okP_of m3)
          have s4 := sameP_self _ (okP_of m4)
          have g2 : (freeP Q2 A).wth = -1 := rfl
          have g3 : (freeP P2 B).wth = -1 := rfl
          dsimp only at *
          generalize yes P2 = PY at *
          generalize yes Q2 = QY at *
          generalize freeP Q2 A = FA at *
          generalize freeP P2 B = FB at *
          refine Api.of_fin cfg_ok Try.func3 rfl (nt := 187) rfl rfl ?_
          conv => whnf
          repeat' (first
            | exact trivial
            | ((first | refine .inl ⟨in64 (by omega) (by omega), ?_⟩ | refine .inl ⟨inU64 (by omega) (by omega), ?_⟩ | refine .inl ⟨inU8 (by omega) (by omega), ?_⟩); (conv => whnf))
            | ((refine ⟨fun hb => ?_, fun hb => ?_⟩) <;> (try simp only [decide_eq_true_eq, decide_eq_false_iff_not, Int.not_lt, Int.not_le, beq_iff_eq, beq_eq_false_iff_ne, bne_iff_ne, bne_eq_false_iff_eq, ne_eq, Decidable.not_not, Bool.not_eq_true', Bool.not_eq_false', Bool.not_eq_true, Bool.not_eq_false, Int.toNat_natCast, Bool.and_eq_true, Bool.or_eq_true, Bool.and_eq_false_iff, Bool.or_eq_false_iff, List.length_nil, List.length_cons] at hb) <;> (first | (exfalso; omega) | contradiction | exact Bool.noConfusion (show true = false from hb.symm.trans (by assumption)) | exact Bool.noConfusion (show false = true from hb.symm.trans (by assumption)) | (conv => whnf)))
            | ((first | (refine callApi (hpr) rfl rfl ?_) | (refine callApiD (hpr) rfl rfl ?_) | (refine callApi (haw) rfl rfl ?_) | (refine callApiD (haw) rfl rfl ?_) | (refine callApi (f1) rfl rfl ?_) | (refine callApiD (f1) rfl rfl ?_) | (refine callApi (f2) rfl rfl ?_) | (refine callApiD (f2) rfl rfl ?_) | (refine callApi (o1) rfl rfl ?_) | (refine callApiD (o1) rfl rfl ?_) | (refine callApi (o2) rfl rfl ?_) | (refine callApiD (o2) rfl rfl ?_) | (refine callApi (a1) rfl rfl ?_) | (refine callApiD (a1) rfl rfl ?_) | (refine callApi (a2) rfl rfl ?_) | (refine callApiD (a2) rfl rfl ?_) | (refine callApi (a3) rfl rfl ?_) | (refine callApiD (a3) rfl rfl ?_) | (refine callApi (a4) rfl rfl ?_) | (refine callApiD (a4) rfl rfl ?_) | (refine callApi (a5) rfl rfl ?_) | (refine callApiD (a5) rfl rfl ?_) | (refine callApi (s1) rfl rfl ?_) | (refine callApiD (s1) rfl rfl ?_) | (refine callApi (s2) rfl rfl ?_) | (refine callApiD (s2) rfl rfl ?_) | (refine callApi (s3) rfl rfl ?_) | (refine callApiD (s3) rfl rfl ?_) | (refine callApi (s4) rfl rfl ?_) | (refine callApiD (s4) rfl rfl ?_) | refine Draws.of cfg_ok (by kernel_rfl) ?_ | refine ⟨(by kernel_rfl : confB _ _ _ _ _ = true), ?_⟩ | refine ⟨by (first | omega | (simp only [lens, Int.toNat_natCast, bsz, Nat.zero_mul, Nat.zero_add]; omega)), ?_⟩ | refine .inl ⟨by omega, by omega, ?_⟩ | refine .inr ⟨⟨by (first | omega | (simp only [lens, Int.toNat_natCast, bsz, Nat.zero_mul, Nat.zero_add]; omega)), by (first | omega | (simp only [lens, Int.toNat_natCast, bsz, Nat.zero_mul, Nat.zero_add]; omega))⟩, ?_⟩ | refine .inl ⟨⟨by (first | omega | (simp only [lens, Int.toNat_natCast, bsz, Nat.zero_mul, Nat.zero_add]; omega)), by (first | omega | (simp only [lens, Int.toNat_natCast, bsz, Nat.zero_mul, Nat.zero_add]; omega))⟩, ?_⟩ | refine ⟨rfl, ?_⟩ | refine ⟨congrArg (Value.int _) (by omega), ?_⟩); (conv => whnf))
            | (refine And.intro ?_ ?_; rotate_left; (conv => whnf); rotate_right))
          all_goals trace_state
    · clear w1 w2
      refine Api.of_fin cfg_ok Try.func3 rfl (nt := 187) rfl rfl ?_
      conv => whnf
      repeat' (first
        | exact trivial
        | ((first | refine .inl ⟨in64 (by omega) (by omega), ?_⟩ | refine .inl ⟨inU64 (by omega) (by omega), ?_⟩ | refine .inl ⟨inU8 (by omega) (by omega), ?_⟩); (conv => whnf))
        | ((refine ⟨fun hb => ?_, fun hb => ?_⟩) <;> (try simp only [decide_eq_true_eq, decide_eq_false_iff_not, Int.not_lt, Int.not_le, beq_iff_eq, beq_eq_false_iff_ne, bne_iff_ne, bne_eq_false_iff_eq, ne_eq, Decidable.not_not, Bool.not_eq_true', Bool.not_eq_false', Bool.not_eq_true, Bool.not_eq_false, Int.toNat_natCast, Bool.and_eq_true, Bool.or_eq_true, Bool.and_eq_false_iff, Bool.or_eq_false_iff, List.length_nil, List.length_cons] at hb) <;> (first | (exfalso; omega) | contradiction | exact Bool.noConfusion (show true = false from hb.symm.trans (by assumption)) | exact Bool.noConfusion (show false = true from hb.symm.trans (by assumption)) | (conv => whnf)))
        | ((first | (refine callApi (hpr) rfl rfl ?_) | (refine callApiD (hpr) rfl rfl ?_) | (refine callApi (haw) rfl rfl ?_) | (refine callApiD (haw) rfl rfl ?_) | (refine callApi (f1) rfl rfl ?_) | (refine callApiD (f1) rfl rfl ?_) | (refine callApi (f2) rfl rfl ?_) | (refine callApiD (f2) rfl rfl ?_) | (refine callApi (o1) rfl rfl ?_) | (refine callApiD (o1) rfl rfl ?_) | (refine callApi (o2) rfl rfl ?_) | (refine callApiD (o2) rfl rfl ?_) | refine Draws.of cfg_ok (by kernel_rfl) ?_ | refine ⟨(by kernel_rfl : confB _ _ _ _ _ = true), ?_⟩ | refine ⟨by (first | omega | (simp only [lens, Int.toNat_natCast, bsz, Nat.zero_mul, Nat.zero_add]; omega)), ?_⟩ | refine .inl ⟨by omega, by omega, ?_⟩ | refine .inr ⟨⟨by (first | omega | (simp only [lens, Int.toNat_natCast, bsz, Nat.zero_mul, Nat.zero_add]; omega)), by (first | omega | (simp only [lens, Int.toNat_natCast, bsz, Nat.zero_mul, Nat.zero_add]; omega))⟩, ?_⟩ | refine .inl ⟨⟨by (first | omega | (simp only [lens, Int.toNat_natCast, bsz, Nat.zero_mul, Nat.zero_add]; omega)), by (first | omega | (simp only [lens, Int.toNat_natCast, bsz, Nat.zero_mul, Nat.zero_add]; omega))⟩, ?_⟩ | refine ⟨rfl, ?_⟩ | refine ⟨congrArg (Value.int _) (by omega), ?_⟩); (conv => whnf))
        | (refine And.intro ?_ ?_; rotate_left; (conv => whnf); rotate_right))
      all_goals trace_state

end Go.Proofs.Ytdbnihckckekcaa
