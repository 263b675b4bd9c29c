
/- Package homesteadlaw14: the small functions; plain laws of trade; awake. -/
import Derived.Test.YtdbnihckckekcaaTrade
import Derived.Test.YtdbnihckckekcaaBagLaw
set_option linter.unusedSimpArgs false
set_option linter.unusedVariables false
namespace Go.Proofs.Ytdbnihckckekcaa
open Go Go.RowKit Eng

set_option maxRecDepth 100000 in
set_option maxHeartbeats 4000000 in
theorem lfree_api (p : Player) : Api Try.prog 10 [playerV p] (playerV { p with wth := -1, offer := [], agrees := false }) := by
  refine Api.of_fin cfg_ok Try.func10 rfl (nt := 6) rfl rfl ?_
  conv => whnf
  repeat' (first
    | exact trivial
    | ((first | refine .inl ⟨in64 (by omega) (by omega), ?_⟩ | refine .inl ⟨inU64 (by omega) (by omega), ?_⟩ | refine .inl ⟨inU8 (by omega) (by omega), ?_⟩); (conv => whnf))
    | ((refine ⟨fun hb => ?_, fun hb => ?_⟩) <;> (try simp only [decide_eq_true_eq, decide_eq_false_iff_not, Int.not_lt, Int.not_le, beq_iff_eq, beq_eq_false_iff_ne, bne_iff_ne, bne_eq_false_iff_eq, ne_eq, Decidable.not_not, Bool.not_eq_true', Bool.not_eq_false', Bool.not_eq_true, Bool.not_eq_false, Int.toNat_natCast, Bool.and_eq_true, Bool.or_eq_true, Bool.and_eq_false_iff, Bool.or_eq_false_iff, List.length_nil, List.length_cons] at hb) <;> (first | (exfalso; omega) | contradiction | exact Bool.noConfusion (show true = false from hb.symm.trans (by assumption)) | exact Bool.noConfusion (show false = true from hb.symm.trans (by assumption)) | (conv => whnf)))
    | ((first | refine Draws.of cfg_ok (by kernel_rfl) ?_ | refine ⟨(by kernel_rfl : confB _ _ _ _ _ = true), ?_⟩ | refine ⟨by (first | omega | (simp only [lens, Int.toNat_natCast, bsz, Nat.zero_mul, Nat.zero_add]; omega)), ?_⟩ | refine .inl ⟨by omega, by omega, ?_⟩ | refine .inr ⟨⟨by (first | omega | (simp only [lens, Int.toNat_natCast, bsz, Nat.zero_mul, Nat.zero_add]; omega)), by (first | omega | (simp only [lens, Int.toNat_natCast, bsz, Nat.zero_mul, Nat.zero_add]; omega))⟩, ?_⟩ | refine .inl ⟨⟨by (first | omega | (simp only [lens, Int.toNat_natCast, bsz, Nat.zero_mul, Nat.zero_add]; omega)), by (first | omega | (simp only [lens, Int.toNat_natCast, bsz, Nat.zero_mul, Nat.zero_add]; omega))⟩, ?_⟩ | refine ⟨rfl, ?_⟩ | refine ⟨congrArg (Value.int _) (by omega), ?_⟩); (conv => whnf))
    | (refine And.intro ?_ ?_; rotate_left; (conv => whnf); rotate_right))

set_option maxRecDepth 100000 in
set_option maxHeartbeats 4000000 in
theorem lright_api (p q : Player) (hp : OkP p) (hq : OkP q) : Api Try.prog 19 [playerV p, playerV q] (bol (mayB p && mayB q)) := by
  have h1 := api_weak (set_world w16 p okW_16 hp) (args' := [.agg [i64 16, .lit (.int .u64 0), i64 0, .lit (.slice none 0 0), .lit (.slice none 0 0)], playerV p]) (.cons (Le.agg (.cons (Le.refl _) (.cons (Le.refl _) (.cons (Le.refl _) (.cons (Le.nil _) (.cons (Le.nil _) .nil)))))) (.cons (Le.refl _) .nil))
  have h2 := api_weak (set_world w16 q okW_16 hq) (args' := [.agg [i64 16, .lit (.int .u64 0), i64 0, .lit (.slice none 0 0), .lit (.slice none 0 0)], playerV q]) (.cons (Le.agg (.cons (Le.refl _) (.cons (Le.refl _) (.cons (Le.refl _) (.cons (Le.nil _) (.cons (Le.nil _) .nil)))))) (.cons (Le.refl _) .nil))
  rw [set_16] at h1 h2
  generalize (setW w16 p).1 = W at h1
  generalize (setW w16 q).1 = V at h2
  cases hP : mayB p
  all_goals
    rw [hP] at h1
    cases hQ : mayB q
    all_goals
      rw [hQ] at h2
      refine Api.of_fin cfg_ok Try.func19 rfl (nt := 27) rfl rfl ?_
      conv => whnf
      repeat' (first
        | exact trivial
        | ((first | refine .inl ⟨in64 (by omega) (by omega), ?_⟩ | refine .inl ⟨inU64 (by omega) (by omega), ?_⟩ | refine .inl ⟨inU8 (by omega) (by omega), ?_⟩); (conv => whnf))
        | ((refine ⟨fun hb => ?_, fun hb => ?_⟩) <;> (try simp only [decide_eq_true_eq, decide_eq_false_iff_not, Int.not_lt, Int.not_le, beq_iff_eq, beq_eq_false_iff_ne, bne_iff_ne, bne_eq_false_iff_eq, ne_eq, Decidable.not_not, Bool.not_eq_true', Bool.not_eq_false', Bool.not_eq_true, Bool.not_eq_false, Int.toNat_natCast, Bool.and_eq_true, Bool.or_eq_true, Bool.and_eq_false_iff, Bool.or_eq_false_iff, List.length_nil, List.length_cons] at hb) <;> (first | (exfalso; omega) | contradiction | exact Bool.noConfusion (show true = false from hb.symm.trans (by assumption)) | exact Bool.noConfusion (show false = true from hb.symm.trans (by assumption)) | (conv => whnf)))
        | ((first | (refine callApi (h1) rfl rfl ?_) | (refine callApiD (h1) rfl rfl ?_) | (refine callApi (h2) rfl rfl ?_) | (refine callApiD (h2) rfl rfl ?_) | refine Draws.of cfg_ok (by kernel_rfl) ?_ | refine ⟨(by kernel_rfl : confB _ _ _ _ _ = true), ?_⟩ | refine ⟨by (first | omega | (simp only [lens, Int.toNat_natCast, bsz, Nat.zero_mul, Nat.zero_add]; omega)), ?_⟩ | refine .inl ⟨by omega, by omega, ?_⟩ | refine .inr ⟨⟨by (first | omega | (simp only [lens, Int.toNat_natCast, bsz, Nat.zero_mul, Nat.zero_add]; omega)), by (first | omega | (simp only [lens, Int.toNat_natCast, bsz, Nat.zero_mul, Nat.zero_add]; omega))⟩, ?_⟩ | refine .inl ⟨⟨by (first | omega | (simp only [lens, Int.toNat_natCast, bsz, Nat.zero_mul, Nat.zero_add]; omega)), by (first | omega | (simp only [lens, Int.toNat_natCast, bsz, Nat.zero_mul, Nat.zero_add]; omega))⟩, ?_⟩ | refine ⟨rfl, ?_⟩ | refine ⟨congrArg (Value.int _) (by omega), ?_⟩); (conv => whnf))
        | (refine And.intro ?_ ?_; rotate_left; (conv => whnf); rotate_right))

def sumP (p q : Player) : Nat := p.bag.length + p.offer.length + q.bag.length + q.offer.length
def pairB (p q : Player) : Bool := decide (sumP p q ≤ 300) && (!(decide (p.id = q.id)) && (mayB p && mayB q))
set_option maxRecDepth 100000 in
set_option maxHeartbeats 4000000 in
theorem pair_api (p q : Player) (hp : OkP p) (hq : OkP q) : Api Try.prog 8 [playerV p, playerV q] (bol (pairB p q)) := by
  have h1 := hp.nb
  have h2 := hp.no
  have h3 := hq.nb
  have h4 := hq.no
  have h5 := lright_api p q hp hq
  unfold pairB sumP
  by_cases hs : p.bag.length + p.offer.length + q.bag.length + q.offer.length ≤ 300
  · rw [decide_eq_true hs]
    by_cases he : p.id = q.id
    · rw [decide_eq_true he]
      refine Api.of_fin cfg_ok Try.func8 rfl (nt := 31) rfl rfl ?_
      conv => whnf
      repeat' (first
        | exact trivial
        | ((first | refine .inl ⟨in64 (by omega) (by omega), ?_⟩ | refine .inl ⟨inU64 (by omega) (by omega), ?_⟩ | refine .inl ⟨inU8 (by omega) (by omega), ?_⟩); (conv => whnf))
        | ((refine ⟨fun hb => ?_, fun hb => ?_⟩) <;> (try simp only [decide_eq_true_eq, decide_eq_false_iff_not, Int.not_lt, Int.not_le, beq_iff_eq, beq_eq_false_iff_ne, bne_iff_ne, bne_eq_false_iff_eq, ne_eq, Decidable.not_not, Bool.not_eq_true', Bool.not_eq_false', Bool.not_eq_true, Bool.not_eq_false, Int.toNat_natCast, Bool.and_eq_true, Bool.or_eq_true, Bool.and_eq_false_iff, Bool.or_eq_false_iff, List.length_nil, List.length_cons] at hb) <;> (first | (exfalso; omega) | contradiction | exact Bool.noConfusion (show true = false from hb.symm.trans (by assumption)) | exact Bool.noConfusion (show false = true from hb.symm.trans (by assumption)) | (conv => whnf)))
        | ((first | (refine callApi (h5) rfl rfl ?_) | (refine callApiD (h5) rfl rfl ?_) | refine Draws.of cfg_ok (by kernel_rfl) ?_ | refine ⟨(by kernel_rfl : confB _ _ _ _ _ = true), ?_⟩ | refine ⟨by (first | omega | (simp only [lens, Int.toNat_natCast, bsz, Nat.zero_mul, Nat.zero_add]; omega)), ?_⟩ | refine .inl ⟨by omega, by omega, ?_⟩ | refine .inr ⟨⟨by (first | omega | (simp only [lens, Int.toNat_natCast, bsz, Nat.zero_mul, Nat.zero_add]; omega)), by (first | omega | (simp only [lens, Int.toNat_natCast, bsz, Nat.zero_mul, Nat.zero_add]; omega))⟩, ?_⟩ | refine .inl ⟨⟨by (first | omega | (simp only [lens, Int.toNat_natCast, bsz, Nat.zero_mul, Nat.zero_add]; omega)), by (first | omega | (simp only [lens, Int.toNat_natCast, bsz, Nat.zero_mul, Nat.zero_add]; omega))⟩, ?_⟩ | refine ⟨rfl, ?_⟩ | refine ⟨congrArg (Value.int _) (by omega), ?_⟩); (conv => whnf))
        | (refine And.intro ?_ ?_; rotate_left; (conv => whnf); rotate_right))
    · rw [decide_eq_false he]
      cases hM : mayB p && mayB q
      all_goals
        rw [hM] at h5
        refine Api.of_fin cfg_ok Try.func8 rfl (nt := 31) rfl rfl ?_
        conv => whnf
        repeat' (first
          | exact trivial
          | ((first | refine .inl ⟨in64 (by omega) (by omega), ?_⟩ | refine .inl ⟨inU64 (by omega) (by omega), ?_⟩ | refine .inl ⟨inU8 (by omega) (by omega), ?_⟩); (conv => whnf))
          | ((refine ⟨fun hb => ?_, fun hb => ?_⟩) <;> (try simp only [decide_eq_true_eq, decide_eq_false_iff_not, Int.not_lt, Int.not_le, beq_iff_eq, beq_eq_false_iff_ne, bne_iff_ne, bne_eq_false_iff_eq, ne_eq, Decidable.not_not, Bool.not_eq_true', Bool.not_eq_false', Bool.not_eq_true, Bool.not_eq_false, Int.toNat_natCast, Bool.and_eq_true, Bool.or_eq_true, Bool.and_eq_false_iff, Bool.or_eq_false_iff, List.length_nil, List.length_cons] at hb) <;> (first | (exfalso; omega) | contradiction | exact Bool.noConfusion (show true = false from hb.symm.trans (by assumption)) | exact Bool.noConfusion (show false = true from hb.symm.trans (by assumption)) | (conv => whnf)))
          | ((first | (refine callApi (h5) rfl rfl ?_) | (refine callApiD (h5) rfl rfl ?_) | refine Draws.of cfg_ok (by kernel_rfl) ?_ | refine ⟨(by kernel_rfl : confB _ _ _ _ _ = true), ?_⟩ | refine ⟨by (first | omega | (simp only [lens, Int.toNat_natCast, bsz, Nat.zero_mul, Nat.zero_add]; omega)), ?_⟩ | refine .inl ⟨by omega, by omega, ?_⟩ | refine .inr ⟨⟨by (first | omega | (simp only [lens, Int.toNat_natCast, bsz, Nat.zero_mul, Nat.zero_add]; omega)), by (first | omega | (simp only [lens, Int.toNat_natCast, bsz, Nat.zero_mul, Nat.zero_add]; omega))⟩, ?_⟩ | refine .inl ⟨⟨by (first | omega | (simp only [lens, Int.toNat_natCast, bsz, Nat.zero_mul, Nat.zero_add]; omega)), by (first | omega | (simp only [lens, Int.toNat_natCast, bsz, Nat.zero_mul, Nat.zero_add]; omega))⟩, ?_⟩ | refine ⟨rfl, ?_⟩ | refine ⟨congrArg (Value.int _) (by omega), ?_⟩); (conv => whnf))
          | (refine And.intro ?_ ?_; rotate_left; (conv => whnf); rotate_right))
  · rw [decide_eq_false hs]
    refine Api.of_fin cfg_ok Try.func8 rfl (nt := 31) rfl rfl ?_
    conv => whnf
    repeat' (first
      | exact trivial
      | ((first | refine .inl ⟨in64 (by omega) (by omega), ?_⟩ | refine .inl ⟨inU64 (by omega) (by omega), ?_⟩ | refine .inl ⟨inU8 (by omega) (by omega), ?_⟩); (conv => whnf))
      | ((refine ⟨fun hb => ?_, fun hb => ?_⟩) <;> (try simp only [decide_eq_true_eq, decide_eq_false_iff_not, Int.not_lt, Int.not_le, beq_iff_eq, beq_eq_false_iff_ne, bne_iff_ne, bne_eq_false_iff_eq, ne_eq, Decidable.not_not, Bool.not_eq_true', Bool.not_eq_false', Bool.not_eq_true, Bool.not_eq_false, Int.toNat_natCast, Bool.and_eq_true, Bool.or_eq_true, Bool.and_eq_false_iff, Bool.or_eq_false_iff, List.length_nil, List.length_cons] at hb) <;> (first | (exfalso; omega) | contradiction | exact Bool.noConfusion (show true = false from hb.symm.trans (by assumption)) | exact Bool.noConfusion (show false = true from hb.symm.trans (by assumption)) | (conv => whnf)))
      | ((first | (refine callApi (h5) rfl rfl ?_) | (refine callApiD (h5) rfl rfl ?_) | refine Draws.of cfg_ok (by kernel_rfl) ?_ | refine ⟨(by kernel_rfl : confB _ _ _ _ _ = true), ?_⟩ | refine ⟨by (first | omega | (simp only [lens, Int.toNat_natCast, bsz, Nat.zero_mul, Nat.zero_add]; omega)), ?_⟩ | refine .inl ⟨by omega, by omega, ?_⟩ | refine .inr ⟨⟨by (first | omega | (simp only [lens, Int.toNat_natCast, bsz, Nat.zero_mul, Nat.zero_add]; omega)), by (first | omega | (simp only [lens, Int.toNat_natCast, bsz, Nat.zero_mul, Nat.zero_add]; omega))⟩, ?_⟩ | refine .inl ⟨⟨by (first | omega | (simp only [lens, Int.toNat_natCast, bsz, Nat.zero_mul, Nat.zero_add]; omega)), by (first | omega | (simp only [lens, Int.toNat_natCast, bsz, Nat.zero_mul, Nat.zero_add]; omega))⟩, ?_⟩ | refine ⟨rfl, ?_⟩ | refine ⟨congrArg (Value.int _) (by omega), ?_⟩); (conv => whnf))
      | (refine And.intro ?_ ?_; rotate_left; (conv => whnf); rotate_right))

def haveP (p q : Player) (i : Int) : Int := countS p.bag i + countS p.offer i + countS q.bag i + countS q.offer i
structure SmallP (p : Player) : Prop where
  bag : ∀ s ∈ p.bag, s.n ≤ 16
  offer : ∀ s ∈ p.offer, s.n ≤ 16
  nb : p.bag.length ≤ 1000
  no : p.offer.length ≤ 1000
set_option maxRecDepth 100000 in
set_option maxHeartbeats 4000000 in
theorem have_api (p q : Player) (i : Int) (hp : SmallP p) (hq : SmallP q) : Api Try.prog 20 [playerV p, playerV q, .lit (.int .u8 i)] (i64 (haveP p q i)) := by
  have n1 := hp.nb
  have n2 := hp.no
  have n3 := hq.nb
  have n4 := hq.no
  have h1 := count_api p.bag i hp.bag (by omega)
  have h2 := count_api p.offer i hp.offer (by omega)
  have h3 := count_api q.bag i hq.bag (by omega)
  have h4 := count_api q.offer i hq.offer (by omega)
  have b1 := countS_bd i hp.bag
  have b2 := countS_bd i hp.offer
  have b3 := countS_bd i hq.bag
  have b4 := countS_bd i hq.offer
  refine Api.of_fin cfg_ok Try.func20 rfl (nt := 23) rfl rfl ?_
  conv => whnf
  repeat' (first
    | exact trivial
    | ((first | refine .inl ⟨in64 (by omega) (by omega), ?_⟩ | refine .inl ⟨inU64 (by omega) (by omega), ?_⟩ | refine .inl ⟨inU8 (by omega) (by omega), ?_⟩); (conv => whnf))
    | ((refine ⟨fun hb => ?_, fun hb => ?_⟩) <;> (try simp only [decide_eq_true_eq, decide_eq_false_iff_not, Int.not_lt, Int.not_le, beq_iff_eq, beq_eq_false_iff_ne, bne_iff_ne, bne_eq_false_iff_eq, ne_eq, Decidable.not_not, Bool.not_eq_true', Bool.not_eq_false', Bool.not_eq_true, Bool.not_eq_false, Int.toNat_natCast, Bool.and_eq_true, Bool.or_eq_true, Bool.and_eq_false_iff, Bool.or_eq_false_iff, List.length_nil, List.length_cons] at hb) <;> (first | (exfalso; omega) | contradiction | exact Bool.noConfusion (show true = false from hb.symm.trans (by assumption)) | exact Bool.noConfusion (show false = true from hb.symm.trans (by assumption)) | (conv => whnf)))
    | ((first | (refine callApi (h1) rfl rfl ?_) | (refine callApiD (h1) rfl rfl ?_) | (refine callApi (h2) rfl rfl ?_) | (refine callApiD (h2) rfl rfl ?_) | (refine callApi (h3) rfl rfl ?_) | (refine callApiD (h3) rfl rfl ?_) | (refine callApi (h4) rfl rfl ?_) | (refine callApiD (h4) rfl rfl ?_) | refine Draws.of cfg_ok (by kernel_rfl) ?_ | refine ⟨(by kernel_rfl : confB _ _ _ _ _ = true), ?_⟩ | refine ⟨by (first | omega | (simp only [lens, Int.toNat_natCast, bsz, Nat.zero_mul, Nat.zero_add]; omega)), ?_⟩ | refine .inl ⟨by omega, by omega, ?_⟩ | refine .inr ⟨⟨by (first | omega | (simp only [lens, Int.toNat_natCast, bsz, Nat.zero_mul, Nat.zero_add]; omega)), by (first | omega | (simp only [lens, Int.toNat_natCast, bsz, Nat.zero_mul, Nat.zero_add]; omega))⟩, ?_⟩ | refine .inl ⟨⟨by (first | omega | (simp only [lens, Int.toNat_natCast, bsz, Nat.zero_mul, Nat.zero_add]; omega)), by (first | omega | (simp only [lens, Int.toNat_natCast, bsz, Nat.zero_mul, Nat.zero_add]; omega))⟩, ?_⟩ | refine ⟨rfl, ?_⟩ | refine ⟨congrArg (Value.int _) (by omega), ?_⟩); (conv => whnf))
    | (refine And.intro ?_ ?_; rotate_left; (conv => whnf); rotate_right))

theorem mayB_iff {p : Player} : mayB p = true ↔ 0 ≤ p.id ∧ p.id ≤ 1073741824 ∧ p.bag.length = 8 ∧ bagOk p.bag = true ∧ withinW 16 p.x p.y = true ∧
    ((p.wth = -1 ∧ p.offer = [] ∧ p.agrees = false) ∨ (0 ≤ p.wth ∧ p.wth ≤ 1073741824 ∧ ¬ p.wth = p.id ∧ p.offer.length = 8 ∧ bagOk p.offer = true)) := by
  unfold mayB soundB bag8
  simp only [Bool.and_eq_true, decide_eq_true_eq]
  by_cases hw : p.wth = -1
  · rw [if_pos hw]
    simp only [Bool.and_eq_true, decide_eq_true_eq, Bool.not_eq_true']
    constructor
    · rintro ⟨⟨h1, h2, ⟨h3, h4⟩, h5, h6⟩, h7⟩
      exact ⟨h1, h2, by omega, h4, h7, .inl ⟨hw, List.eq_nil_of_length_eq_zero (by omega), h6⟩⟩
    · rintro ⟨h1, h2, h3, h4, h7, h | h⟩
      · exact ⟨⟨h1, h2, ⟨by omega, h4⟩, by rw [h.2.1]; rfl, h.2.2⟩, h7⟩
      · omega
  · rw [if_neg hw]
    simp only [Bool.and_eq_true, decide_eq_true_eq, Bool.not_eq_true', decide_eq_false_iff_not]
    constructor
    · rintro ⟨⟨h1, h2, ⟨h3, h4⟩, h5, h6, h8, h9, h10⟩, h7⟩
      exact ⟨h1, h2, by omega, h4, h7, .inr ⟨h5, h6, h8, by omega, h10⟩⟩
    · rintro ⟨h1, h2, h3, h4, h7, h | h⟩
      · exact absurd h.1 hw
      · exact ⟨⟨h1, h2, ⟨by omega, h4⟩, h.1, h.2.1, h.2.2.1, by omega, h.2.2.2.2⟩, h7⟩
theorem may_offer {p : Player} (h : mayB p = true) : bagOk p.offer = true ∧ p.offer.length ≤ 8 := by
  obtain ⟨_, _, _, _, _, h | h⟩ := mayB_iff.1 h
  · rw [h.2.1]; exact ⟨rfl, by simp⟩
  · exact ⟨h.2.2.2.2, by omega⟩
theorem smallP_of {p : Player} (h : mayB p = true) : SmallP p := by
  obtain ⟨_, _, h3, h4, _, _⟩ := mayB_iff.1 h
  have h5 := may_offer h
  exact ⟨fun s hs => (bagOk_small h4 s hs).2, fun s hs => (bagOk_small h5.1 s hs).2, by omega, by omega⟩
theorem may_waver {q : Player} (id : Int) (h : mayB q = true) : mayB (waverP q id) = true := by
  rw [mayB_iff] at h ⊢
  simp only [waverP]
  obtain ⟨h1, h2, h3, h4, h5, h⟩ := h
  refine ⟨h1, h2, h3, h4, h5, ?_⟩
  rcases h with h | h
  · exact .inl ⟨h.1, h.2.1, by rw [h.2.2]; rfl⟩
  · exact .inr h
theorem stackN_item {i : Int} (h : 1 ≤ stackN i) : 0 ≤ i ∧ i ≤ 255 := by
  unfold stackN at h
  (repeat' split at h) <;> omega
theorem bagOk_okSlot {l : List Slot} (h : bagOk l = true) : ∀ s ∈ l, okSlot s := by
  intro s hs
  rcases badSlot_false.1 (bagOk_iff.1 h s hs) with h | h
  · exact ⟨by omega, by omega⟩
  · exact stackN_item (by omega)
theorem okP_of {p : Player} (h : mayB p = true) : OkP p := by
  obtain ⟨_, _, h3, h4, _, _⟩ := mayB_iff.1 h
  have h5 := may_offer h
  exact ⟨bagOk_okSlot h4, bagOk_okSlot h5.1, by omega, by omega⟩
theorem dealB_iff {p q : Player} : dealB p q = true ↔ ¬ p.id = q.id ∧ mayB p = true ∧ mayB q = true := by
  unfold dealB
  simp only [Bool.and_eq_true, Bool.not_eq_true', decide_eq_false_iff_not]
theorem waver_bag (q : Player) (id : Int) : (waverP q id).bag = q.bag ∧ (waverP q id).offer = q.offer ∧ (waverP q id).id = q.id := ⟨rfl, rfl, rfl⟩
theorem newB8_ok : bagOk newB8 = true := by decide
theorem newB8_count (k : Int) : countS newB8 k = 0 := by
  have : ∀ n : Nat, countS (List.replicate n ⟨0, 0⟩) k = 0 := by
    intro n
    induction n with
    | zero => rfl
    | succ n ih => rw [List.replicate_succ]; simp only [countS, ih, cnt]; split <;> rfl
  exact this 8
/-- What a step leaves. -/
structure KeptP (p q a b : Player) : Prop where
  ma : mayB a = true
  mb : mayB b = true
  ia : a.id = p.id
  ib : b.id = q.id
  sum : ∀ k, haveP a b k = haveP p q k
theorem KeptP.refl {p q : Player} (hp : mayB p = true) (hq : mayB q = true) : KeptP p q p q := ⟨hp, hq, rfl, rfl, fun _ => rfl⟩
theorem sel_zero (k i : Int) : sel k i 0 = 0 := by unfold sel; split <;> rfl
theorem offer_kept {p q : Player} (hp : mayB p = true) (hq : mayB q = true) (hne : ¬ p.id = q.id) (a n : Int) : KeptP p q (offerP p q a n).1 (offerP p q a n).2.1 := by
  unfold offerP
  generalize hO : (if p.wth = -1 then newB8 else p.offer) = O
  split
  · exact .refl hp hq
  · split
    · exact .refl hp hq
    · rename_i hw
      split
      · exact .refl hp hq
      · rename_i hE
        have hE' : (takeS p.bag a n).2.2 = 0 := by simpa using hE
        obtain ⟨n1, n2, n3, n4, n5, n6, n7, n8⟩ := takeS_n hE'
        split
        · exact .refl hp hq
        · rename_i hr
          rw [n8] at hr ⊢
          dsimp only at hr ⊢
          have ha : a.toNat < p.bag.length := by omega
          have hc1 := take_count n4 ha n2 n7
          have hb1 := take_bagOk n4 ha n2 n7
          have hp' := mayB_iff.1 hp
          have hq' := mayB_iff.1 hq
          have hOk : bagOk O = true ∧ O.length = 8 ∧ ∀ k, countS O k = countS p.offer k := by
            rw [← hO]
            split
            · rename_i hm
              refine ⟨newB8_ok, rfl, fun k => ?_⟩
              rcases hp'.2.2.2.2.2 with h | h
              · rw [newB8_count, h.2.1]; rfl
              · omega
            · rename_i hm
              rcases hp'.2.2.2.2.2 with h | h
              · exact absurd h.1 hm
              · exact ⟨h.2.2.2.2, h.2.2.2.1, fun _ => rfl⟩
          have hl := putS_left (l := O) (i := (elt .slot p.bag a.toNat).item) (n := n) (by omega)
          have hc2 := putS_count (l := O) (i := (elt .slot p.bag a.toNat).item) (n := n) (by omega)
          have hb2 := putS_bagOk (i := (elt .slot p.bag a.toNat).item) (n := n) hOk.1
          have hl2 := putS_length O (elt .slot p.bag a.toNat).item n
          refine ⟨?_, may_waver _ hq, rfl, rfl, fun k => ?_⟩
          · rw [mayB_iff]
            dsimp only
            refine ⟨hp'.1, hp'.2.1, by rw [List.length_set]; exact hp'.2.2.1, hb1, hp'.2.2.2.2.1, .inr ⟨hq'.1, hq'.2.1, fun e => hne e.symm, by rw [hl2]; exact hOk.2.1, hb2⟩⟩
          · have e1 := hc1 k
            have e2 := hc2 k
            rw [show (putS O (elt .slot p.bag a.toNat).item n).2 = 0 by omega, sel_zero] at e2
            have e3 := hOk.2.2 k
            simp only [haveP, waver_bag]
            omega
theorem free_may {p : Player} (hp : mayB p = true) {l : List Slot} (h1 : l.length = 8) (h2 : bagOk l = true) : mayB (freeP p l) = true := by
  have h := mayB_iff.1 hp
  rw [mayB_iff]
  exact ⟨h.1, h.2.1, h1, h2, h.2.2.2.2.1, .inl ⟨rfl, rfl, rfl⟩⟩
theorem agree_kept {p q : Player} (hp : mayB p = true) (hq : mayB q = true) (hne : ¬ p.id = q.id) : KeptP p q (agreeP p q).1 (agreeP p q).2.1 ∧
    ((agreeP p q).2.2.1 = true → (agreeP p q).1.wth = -1 ∧ (agreeP p q).2.1.wth = -1 ∧ (agreeP p q).1.offer = [] ∧ (agreeP p q).2.1.offer = [] ∧
      ∀ k, countS (agreeP p q).1.bag k = countS p.bag k + countS q.offer k ∧ countS (agreeP p q).2.1.bag k = countS q.bag k + countS p.offer k) ∧
    ((agreeP p q).2.2.1 = false → (agreeP p q).1.bag = p.bag ∧ (agreeP p q).2.1.bag = q.bag) := by
  have hp' := mayB_iff.1 hp
  have hq' := mayB_iff.1 hq
  unfold agreeP
  split
  · exact ⟨.refl hp hq, by simp, by simp⟩
  · split
    · exact ⟨.refl hp hq, by simp, by simp⟩
    · rename_i hw
      split
      · refine ⟨⟨?_, hq, rfl, rfl, fun _ => rfl⟩, by simp, by simp⟩
        rw [mayB_iff]
        dsimp only
        refine ⟨hp'.1, hp'.2.1, hp'.2.2.1, hp'.2.2.2.1, hp'.2.2.2.2.1, ?_⟩
        rcases hp'.2.2.2.2.2 with h | h
        · have := hq'.1; omega
        · exact .inr h
      · split
        · exact ⟨.refl hp hq, by simp, by simp⟩
        · rename_i hx
          have hx1 : (allS p.bag q.offer).2 = 0 := by omega
          have hx2 : (allS q.bag p.offer).2 = 0 := by omega
          obtain ⟨a1, a2, a3⟩ := allS_props hx1
          obtain ⟨b1, b2, b3⟩ := allS_props hx2
          refine ⟨⟨free_may hp (by rw [a1]; exact hp'.2.2.1) a2, free_may hq (by rw [b1]; exact hq'.2.2.1) b2, rfl, rfl, fun k => ?_⟩, fun _ => ⟨rfl, rfl, rfl, rfl, fun k => ⟨a3 k, b3 k⟩⟩, by simp⟩
          simp only [haveP, freeP, a3, b3, countS]; omega
theorem cancel_kept {p q : Player} (hp : mayB p = true) (hq : mayB q = true) : KeptP p q (cancelP p q).1 (cancelP p q).2.1 := by
  have hp' := mayB_iff.1 hp
  unfold cancelP
  split
  · exact .refl hp hq
  · split
    · exact .refl hp hq
    · split
      · exact .refl hp hq
      · rename_i hx
        have hx1 : (allS p.bag p.offer).2 = 0 := by simpa using hx
        obtain ⟨a1, a2, a3⟩ := allS_props hx1
        refine ⟨free_may hp (by rw [a1]; exact hp'.2.2.1) a2, may_waver _ hq, rfl, rfl, fun k => ?_⟩
        simp only [haveP, freeP, a3, countS, waver_bag]; omega


def slot1 : Slot := ⟨1, 5⟩
def slot2 : Slot := ⟨12, 1⟩
def pl (id : Int) (s : Slot) : Player := ⟨id, 0, 0, s :: List.replicate 7 ⟨0, 0⟩, -1, [], false⟩
set_option maxRecDepth 100000 in
set_option maxHeartbeats 4000000 in
theorem with_api (id : Int) (s : Slot) : Api Try.prog 23 [i64 id, .agg [.lit (.int .u8 s.item), .lit (.int .i64 s.n)]] (playerV (pl id s)) := by
  refine Api.of_fin cfg_ok Try.func23 rfl (nt := 11) rfl rfl ?_
  conv => whnf
  repeat' (first
    | exact trivial
    | ((first | refine .inl ⟨in64 (by omega) (by omega), ?_⟩ | refine .inl ⟨inU64 (by omega) (by omega), ?_⟩ | refine .inl ⟨inU8 (by omega) (by omega), ?_⟩); (conv => whnf))
    | ((refine ⟨fun hb => ?_, fun hb => ?_⟩) <;> (try simp only [decide_eq_true_eq, decide_eq_false_iff_not, Int.not_lt, Int.not_le, beq_iff_eq, beq_eq_false_iff_ne, bne_iff_ne, bne_eq_false_iff_eq, ne_eq, Decidable.not_not, Bool.not_eq_true', Bool.not_eq_false', Bool.not_eq_true, Bool.not_eq_false, Int.toNat_natCast, Bool.and_eq_true, Bool.or_eq_true, Bool.and_eq_false_iff, Bool.or_eq_false_iff, List.length_nil, List.length_cons] at hb) <;> (first | (exfalso; omega) | contradiction | exact Bool.noConfusion (show true = false from hb.symm.trans (by assumption)) | exact Bool.noConfusion (show false = true from hb.symm.trans (by assumption)) | (conv => whnf)))
    | (refine ⟨(⟨by decide, by decide⟩ : 0 ≤ (0 : Int) ∧ (0 : Int) < ((8 : Nat) : Int)), ?_⟩; (conv => whnf))
    | ((first | refine Draws.of cfg_ok (by kernel_rfl) ?_ | refine ⟨(by kernel_rfl : confB _ _ _ _ _ = true), ?_⟩ | refine ⟨by (first | omega | (simp only [lens, Int.toNat_natCast, bsz, Nat.zero_mul, Nat.zero_add]; omega)), ?_⟩ | refine .inl ⟨by omega, by omega, ?_⟩ | refine .inr ⟨⟨by (first | omega | (simp only [lens, Int.toNat_natCast, bsz, Nat.zero_mul, Nat.zero_add]; omega)), by (first | omega | (simp only [lens, Int.toNat_natCast, bsz, Nat.zero_mul, Nat.zero_add]; omega))⟩, ?_⟩ | refine .inl ⟨⟨by (first | omega | (simp only [lens, Int.toNat_natCast, bsz, Nat.zero_mul, Nat.zero_add]; omega)), by (first | omega | (simp only [lens, Int.toNat_natCast, bsz, Nat.zero_mul, Nat.zero_add]; omega))⟩, ?_⟩ | refine ⟨rfl, ?_⟩ | refine ⟨congrArg (Value.int _) (by omega), ?_⟩); (conv => whnf))
    | (refine And.intro ?_ ?_; rotate_left; (conv => whnf); rotate_right))
  all_goals rfl

def pA : Player := ⟨1, 0, 0, ⟨1, 2⟩ :: List.replicate 7 ⟨0, 0⟩, 2, ⟨1, 3⟩ :: List.replicate 7 ⟨0, 0⟩, false⟩
theorem oA : offerP (pl 1 slot1) (pl 2 slot2) 0 3 = (pA, pl 2 slot2, 0) := by kernel_rfl
def qB : Player := ⟨2, 0, 0, List.replicate 8 ⟨0, 0⟩, 1, ⟨12, 1⟩ :: List.replicate 7 ⟨0, 0⟩, false⟩
theorem oB : offerP (pl 2 slot2) pA 0 1 = (qB, pA, 0) := by kernel_rfl
def pC : Player := { pA with agrees := true }
theorem oC : agreeP pA qB = (pC, qB, false, 0) := by kernel_rfl
def qD : Player := ⟨2, 0, 0, ⟨1, 3⟩ :: List.replicate 7 ⟨0, 0⟩, -1, [], false⟩
def pD : Player := ⟨1, 0, 0, ⟨1, 2⟩ :: ⟨12, 1⟩ :: List.replicate 6 ⟨0, 0⟩, -1, [], false⟩
theorem oD : agreeP qB pC = (qD, pD, true, 0) := by kernel_rfl
theorem mayA : mayB (pl 1 slot1) = true ∧ mayB (pl 2 slot2) = true ∧ mayB pA = true ∧ mayB qB = true ∧ mayB pC = true := ⟨by kernel_rfl, by kernel_rfl, by kernel_rfl, by kernel_rfl, by kernel_rfl⟩
theorem cD : countS pD.bag 1 = 2 ∧ countS pD.bag 12 = 1 ∧ countS qD.bag 1 = 3 := ⟨by kernel_rfl, by kernel_rfl, by kernel_rfl⟩
theorem smD : (∀ s ∈ pD.bag, s.n ≤ 16) ∧ (∀ s ∈ qD.bag, s.n ≤ 16) ∧ pD.bag.length ≤ 10 ∧ qD.bag.length ≤ 10 := by decide

set_option maxRecDepth 100000 in
set_option maxHeartbeats 4000000 in
theorem awake14_api  : Api Try.prog 9 [] (bol true) := by
  obtain ⟨m1, m2, m3, m4, m5⟩ := mayA
  have w1 : Api Try.prog 23 [i64 1, .agg [.lit (.int .u8 1), .lit (.int .i64 5)]] (playerV (pl 1 slot1)) := with_api 1 slot1
  have w2 : Api Try.prog 23 [i64 2, .agg [.lit (.int .u8 12), .lit (.int .i64 1)]] (playerV (pl 2 slot2)) := with_api 2 slot2
  have h1 := offer_api (pl 1 slot1) (pl 2 slot2) 0 3 (okP_of m1) (okP_of m2)
  rw [oA] at h1
  have h2 := offer_api (pl 2 slot2) pA 0 1 (okP_of m2) (okP_of m3)
  rw [oB] at h2
  have h3 := agree_api pA qB (okP_of m3) (okP_of m4)
  rw [oC] at h3
  have h4 := agree_api qB pC (okP_of m4) (okP_of m5)
  rw [oD] at h4
  obtain ⟨s1, s2, s3, s4⟩ := smD
  have c1 := count_api pD.bag 1 s1 (by omega)
  have c2 := count_api pD.bag 12 s1 (by omega)
  have c3 := count_api qD.bag 1 s2 (by omega)
  rw [cD.1] at c1
  rw [cD.2.1] at c2
  rw [cD.2.2] at c3
  have z1 : pD.wth = -1 := rfl
  have z2 : qD.offer.length = 0 := rfl
  dsimp only at h1 h2 h3 h4
  generalize pl 1 slot1 = P1 at *
  generalize pl 2 slot2 = P2 at *
  generalize pA = A at *
  generalize qB = B at *
  generalize pC = C at *
  generalize qD = D at *
  generalize pD = E at *
  refine Api.of_fin cfg_ok Try.func9 rfl (nt := 87) rfl rfl ?_
  conv => whnf
  repeat' (first
    | exact trivial
    | ((first | refine .inl ⟨in64 (by omega) (by omega), ?_⟩ | refine .inl ⟨inU64 (by omega) (by omega), ?_⟩ | refine .inl ⟨inU8 (by omega) (by omega), ?_⟩); (conv => whnf))
    | ((refine ⟨fun hb => ?_, fun hb => ?_⟩) <;> (try simp only [decide_eq_true_eq, decide_eq_false_iff_not, Int.not_lt, Int.not_le, beq_iff_eq, beq_eq_false_iff_ne, bne_iff_ne, bne_eq_false_iff_eq, ne_eq, Decidable.not_not, Bool.not_eq_true', Bool.not_eq_false', Bool.not_eq_true, Bool.not_eq_false, Int.toNat_natCast, Bool.and_eq_true, Bool.or_eq_true, Bool.and_eq_false_iff, Bool.or_eq_false_iff, List.length_nil, List.length_cons] at hb) <;> (first | (exfalso; omega) | contradiction | exact Bool.noConfusion (show true = false from hb.symm.trans (by assumption)) | exact Bool.noConfusion (show false = true from hb.symm.trans (by assumption)) | (conv => whnf)))
    | ((first | (refine callApi (w1) rfl rfl ?_) | (refine callApiD (w1) rfl rfl ?_) | (refine callApi (w2) rfl rfl ?_) | (refine callApiD (w2) rfl rfl ?_) | (refine callApi (h1) rfl rfl ?_) | (refine callApiD (h1) rfl rfl ?_) | (refine callApi (h2) rfl rfl ?_) | (refine callApiD (h2) rfl rfl ?_) | (refine callApi (h3) rfl rfl ?_) | (refine callApiD (h3) rfl rfl ?_) | (refine callApi (h4) rfl rfl ?_) | (refine callApiD (h4) rfl rfl ?_) | (refine callApi (c1) rfl rfl ?_) | (refine callApiD (c1) rfl rfl ?_) | (refine callApi (c2) rfl rfl ?_) | (refine callApiD (c2) rfl rfl ?_) | (refine callApi (c3) rfl rfl ?_) | (refine callApiD (c3) rfl rfl ?_) | refine Draws.of cfg_ok (by kernel_rfl) ?_ | refine ⟨(by kernel_rfl : confB _ _ _ _ _ = true), ?_⟩ | refine ⟨by (first | omega | (simp only [lens, Int.toNat_natCast, bsz, Nat.zero_mul, Nat.zero_add]; omega)), ?_⟩ | refine .inl ⟨by omega, by omega, ?_⟩ | refine .inr ⟨⟨by (first | omega | (simp only [lens, Int.toNat_natCast, bsz, Nat.zero_mul, Nat.zero_add]; omega)), by (first | omega | (simp only [lens, Int.toNat_natCast, bsz, Nat.zero_mul, Nat.zero_add]; omega))⟩, ?_⟩ | refine .inl ⟨⟨by (first | omega | (simp only [lens, Int.toNat_natCast, bsz, Nat.zero_mul, Nat.zero_add]; omega)), by (first | omega | (simp only [lens, Int.toNat_natCast, bsz, Nat.zero_mul, Nat.zero_add]; omega))⟩, ?_⟩ | refine ⟨rfl, ?_⟩ | refine ⟨congrArg (Value.int _) (by omega), ?_⟩); (conv => whnf))
    | (refine And.intro ?_ ?_; rotate_left; (conv => whnf); rotate_right))
  all_goals (rw [z2]; rfl)
end Go.Proofs.Ytdbnihckckekcaa
