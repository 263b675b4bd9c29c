
/- Players: alone, sound, within; SamePlayer. -/
import Derived.Test.YtdbnihckckekcaaBag2
import Derived.Test.YtdbnihckckekcaaKeyed
set_option linter.unusedSimpArgs false
set_option linter.unusedVariables false
namespace Go.Proofs.Ytdbnihckckekcaa
open Go Go.RowKit Eng

structure OkP (p : Player) : Prop where
  bag : ∀ s ∈ p.bag, okSlot s
  offer : ∀ s ∈ p.offer, okSlot s
  nb : p.bag.length * 16 ≤ 140737488351232
  no : p.offer.length * 16 ≤ 140737488351232

abbrev playerC (p : Player) : List AV := [i64 p.id, i64 p.x, i64 p.y, .vec .slot p.bag, i64 p.wth, .vec .slot p.offer, bol p.agrees]
abbrev playerV (p : Player) : AV := .agg [i64 p.id, i64 p.x, i64 p.y, .vec .slot p.bag, i64 p.wth, .vec .slot p.offer, bol p.agrees]

set_option maxRecDepth 100000 in
set_option maxHeartbeats 4000000 in
theorem alone_api (p : Player) (hp : OkP p) : Api Try.prog 55 [playerV p] (playerV p) := by
  have h1 := hp.nb
  have h2 := hp.no
  refine Api.of_fin cfg_ok Try.func55 rfl (nt := 11) rfl rfl ?_
  conv => whnf
  repeat' (first
    | exact trivial
    | ((first | refine .inl ⟨in64 (by omega) (by omega), ?_⟩ | refine .inl ⟨inU64 (by omega) (by omega), ?_⟩ | refine .inl ⟨inU8 (by omega) (by omega), ?_⟩); (conv => whnf))
    | ((refine ⟨fun hb => ?_, fun hb => ?_⟩) <;> (try simp only [decide_eq_true_eq, decide_eq_false_iff_not, Int.not_lt, Int.not_le, beq_iff_eq, beq_eq_false_iff_ne, bne_iff_ne, bne_eq_false_iff_eq, ne_eq, Decidable.not_not, Bool.not_eq_true', Bool.not_eq_false', Bool.not_eq_true, Bool.not_eq_false, Int.toNat_natCast, Bool.and_eq_true, Bool.or_eq_true, Bool.and_eq_false_iff, Bool.or_eq_false_iff, List.length_nil, List.length_cons] at hb) <;> (first | (exfalso; omega) | contradiction | (conv => whnf)))
    | ((first | (refine isE 38 ?_; refine callApi (cloneV_slots p.bag (by omega)) rfl rfl ?_) | (refine isD 38 ?_; refine callApiD (cloneV_slots p.bag (by omega)) rfl rfl ?_) | (refine isE 38 ?_; refine callApi (cloneV_slots p.offer (by omega)) rfl rfl ?_) | (refine isD 38 ?_; refine callApiD (cloneV_slots p.offer (by omega)) rfl rfl ?_) | refine Draws.of cfg_ok (by kernel_rfl) ?_ | refine ⟨(by kernel_rfl : confB _ _ _ _ _ = true), ?_⟩ | refine ⟨by (first | omega | (simp only [lens, Int.toNat_natCast, bsz, Nat.zero_mul, Nat.zero_add]; omega)), ?_⟩ | refine .inl ⟨by omega, by omega, ?_⟩ | refine .inr ⟨⟨by (first | omega | (simp only [lens, Int.toNat_natCast, bsz, Nat.zero_mul, Nat.zero_add]; omega)), by (first | omega | (simp only [lens, Int.toNat_natCast, bsz, Nat.zero_mul, Nat.zero_add]; omega))⟩, ?_⟩ | refine .inl ⟨⟨by (first | omega | (simp only [lens, Int.toNat_natCast, bsz, Nat.zero_mul, Nat.zero_add]; omega)), by (first | omega | (simp only [lens, Int.toNat_natCast, bsz, Nat.zero_mul, Nat.zero_add]; omega))⟩, ?_⟩ | refine ⟨rfl, ?_⟩ | refine ⟨congrArg (Value.int _) (by omega), ?_⟩); (conv => whnf))
    | (refine And.intro ?_ ?_; rotate_left; (conv => whnf); rotate_right))

set_option maxRecDepth 100000 in
set_option maxHeartbeats 4000000 in
theorem townp_api (p : Player) (hp : OkP p) : Api Try.prog 24 [playerV p] (playerV p) := by
  have h1 := hp.nb
  have h2 := hp.no
  refine Api.of_fin cfg_ok Try.func24 rfl (nt := 11) rfl rfl ?_
  conv => whnf
  repeat' (first
    | exact trivial
    | ((first | refine .inl ⟨in64 (by omega) (by omega), ?_⟩ | refine .inl ⟨inU64 (by omega) (by omega), ?_⟩ | refine .inl ⟨inU8 (by omega) (by omega), ?_⟩); (conv => whnf))
    | ((refine ⟨fun hb => ?_, fun hb => ?_⟩) <;> (try simp only [decide_eq_true_eq, decide_eq_false_iff_not, Int.not_lt, Int.not_le, beq_iff_eq, beq_eq_false_iff_ne, bne_iff_ne, bne_eq_false_iff_eq, ne_eq, Decidable.not_not, Bool.not_eq_true', Bool.not_eq_false', Bool.not_eq_true, Bool.not_eq_false, Int.toNat_natCast, Bool.and_eq_true, Bool.or_eq_true, Bool.and_eq_false_iff, Bool.or_eq_false_iff, List.length_nil, List.length_cons] at hb) <;> (first | (exfalso; omega) | contradiction | (conv => whnf)))
    | ((first | (refine isE 38 ?_; refine callApi (cloneV_slots p.bag (by omega)) rfl rfl ?_) | (refine isD 38 ?_; refine callApiD (cloneV_slots p.bag (by omega)) rfl rfl ?_) | (refine isE 38 ?_; refine callApi (cloneV_slots p.offer (by omega)) rfl rfl ?_) | (refine isD 38 ?_; refine callApiD (cloneV_slots p.offer (by omega)) rfl rfl ?_) | refine Draws.of cfg_ok (by kernel_rfl) ?_ | refine ⟨(by kernel_rfl : confB _ _ _ _ _ = true), ?_⟩ | refine ⟨by (first | omega | (simp only [lens, Int.toNat_natCast, bsz, Nat.zero_mul, Nat.zero_add]; omega)), ?_⟩ | refine .inl ⟨by omega, by omega, ?_⟩ | refine .inr ⟨⟨by (first | omega | (simp only [lens, Int.toNat_natCast, bsz, Nat.zero_mul, Nat.zero_add]; omega)), by (first | omega | (simp only [lens, Int.toNat_natCast, bsz, Nat.zero_mul, Nat.zero_add]; omega))⟩, ?_⟩ | refine .inl ⟨⟨by (first | omega | (simp only [lens, Int.toNat_natCast, bsz, Nat.zero_mul, Nat.zero_add]; omega)), by (first | omega | (simp only [lens, Int.toNat_natCast, bsz, Nat.zero_mul, Nat.zero_add]; omega))⟩, ?_⟩ | refine ⟨rfl, ?_⟩ | refine ⟨congrArg (Value.int _) (by omega), ?_⟩); (conv => whnf))
    | (refine And.intro ?_ ?_; rotate_left; (conv => whnf); rotate_right))

def bag8 (l : List Slot) : Bool := decide ((l.length : Int) = 8) && bagOk l
def soundB (p : Player) : Bool :=
  decide (0 ≤ p.id) && (decide (p.id ≤ 1073741824) && (bag8 p.bag && (if p.wth = -1 then decide ((p.offer.length : Int) = 0) && !p.agrees
    else decide (0 ≤ p.wth) && (decide (p.wth ≤ 1073741824) && (!(decide (p.wth = p.id)) && bag8 p.offer)))))

set_option maxRecDepth 100000 in
set_option maxHeartbeats 4000000 in
theorem sound_api (p : Player) (hp : OkP p) : Api Try.prog 53 [playerV p] (bol (soundB p)) := by
  have h1 := bagRight_api p.bag 8 (by have := hp.nb; unfold big; omega) hp.bag
  have h2 := bagRight_api p.offer 8 (by have := hp.no; unfold big; omega) hp.offer
  have h3 := hp.no
  change Api _ _ _ (bol (bag8 p.bag)) at h1
  change Api _ _ _ (bol (bag8 p.offer)) at h2
  unfold soundB
  generalize bag8 p.bag = b1 at *
  generalize bag8 p.offer = b2 at *
  cases b1 <;> cases b2 <;> cases hag : p.agrees
  all_goals
    refine Api.of_fin cfg_ok Try.func53 rfl (nt := 48) rfl rfl ?_
    conv => whnf
    repeat' (first
      | exact trivial
      | ((first | refine .inl ⟨in64 (by omega) (by omega), ?_⟩ | refine .inl ⟨inU64 (by omega) (by omega), ?_⟩ | refine .inl ⟨inU8 (by omega) (by omega), ?_⟩); (conv => whnf))
      | ((refine ⟨fun hb => ?_, fun hb => ?_⟩) <;> (try simp only [decide_eq_true_eq, decide_eq_false_iff_not, Int.not_lt, Int.not_le, beq_iff_eq, beq_eq_false_iff_ne, bne_iff_ne, bne_eq_false_iff_eq, ne_eq, Decidable.not_not, Bool.not_eq_true', Bool.not_eq_false', Bool.not_eq_true, Bool.not_eq_false, Int.toNat_natCast, Bool.and_eq_true, Bool.or_eq_true, Bool.and_eq_false_iff, Bool.or_eq_false_iff, List.length_nil, List.length_cons] at hb) <;> (first | (exfalso; omega) | contradiction | (conv => whnf)))
      | ((first | (refine callApi (h1) rfl rfl ?_) | (refine callApiD (h1) rfl rfl ?_) | (refine callApi (h2) rfl rfl ?_) | (refine callApiD (h2) rfl rfl ?_) | refine Draws.of cfg_ok (by kernel_rfl) ?_ | refine ⟨(by kernel_rfl : confB _ _ _ _ _ = true), ?_⟩ | refine ⟨by (first | omega | (simp only [lens, Int.toNat_natCast, bsz, Nat.zero_mul, Nat.zero_add]; omega)), ?_⟩ | refine .inl ⟨by omega, by omega, ?_⟩ | refine .inr ⟨⟨by (first | omega | (simp only [lens, Int.toNat_natCast, bsz, Nat.zero_mul, Nat.zero_add]; omega)), by (first | omega | (simp only [lens, Int.toNat_natCast, bsz, Nat.zero_mul, Nat.zero_add]; omega))⟩, ?_⟩ | refine .inl ⟨⟨by (first | omega | (simp only [lens, Int.toNat_natCast, bsz, Nat.zero_mul, Nat.zero_add]; omega)), by (first | omega | (simp only [lens, Int.toNat_natCast, bsz, Nat.zero_mul, Nat.zero_add]; omega))⟩, ?_⟩ | refine ⟨rfl, ?_⟩ | refine ⟨congrArg (Value.int _) (by omega), ?_⟩); (conv => whnf))
      | (refine And.intro ?_ ?_; rotate_left; (conv => whnf); rotate_right))
    all_goals first
      | (refine congrArg Value.bool ?_; simp; done)
      | (refine congrArg Value.bool ?_; simp; omega)
      | (refine congrArg Value.bool ?_; simp [*]; done)
      | (refine congrArg Value.bool ?_; simp [*]; omega)
      | (refine congrArg Value.bool ?_; simp_all; done)
      | (refine congrArg Value.bool ?_; simp_all; omega)
      | (simp_all; done)
      | trace_state

def withinB (size x y : Int) : Bool := decide (0 ≤ min x y) && decide (max x y < 8 * size)

def eqPlayer (a b : Player) : Bool := (a.id == b.id) && ((a.x == b.x) && ((a.y == b.y) && ((a.wth == b.wth) && ((a.agrees == b.agrees) && (sameSlots a.bag b.bag && sameSlots a.offer b.offer)))))

set_option maxRecDepth 100000 in
set_option maxHeartbeats 4000000 in
theorem sameP_self (p : Player) (hp : OkP p) : Api Try.prog 13 [playerV p, playerV p] (bol true) := by
  have h1 := sameSlots_api p.bag p.bag (by have := hp.nb; unfold big; omega)
  have h2 := sameSlots_api p.offer p.offer (by have := hp.no; unfold big; omega)
  rw [sameSlots_true rfl (fun i _ => by simp [eqSlot])] at h1 h2
  refine Api.of_fin cfg_ok Try.func13 rfl (nt := 50) rfl rfl ?_
  conv => whnf
  repeat' (first
    | exact trivial
    | ((first | refine .inl ⟨in64 (by omega) (by omega), ?_⟩ | refine .inl ⟨inU64 (by omega) (by omega), ?_⟩ | refine .inl ⟨inU8 (by omega) (by omega), ?_⟩); (conv => whnf))
    | ((refine ⟨fun hb => ?_, fun hb => ?_⟩) <;> (try simp only [decide_eq_true_eq, decide_eq_false_iff_not, Int.not_lt, Int.not_le, beq_iff_eq, beq_eq_false_iff_ne, bne_iff_ne, bne_eq_false_iff_eq, ne_eq, Decidable.not_not, Bool.not_eq_true', Bool.not_eq_false', Bool.not_eq_true, Bool.not_eq_false, Int.toNat_natCast, Bool.and_eq_true, Bool.or_eq_true, Bool.and_eq_false_iff, Bool.or_eq_false_iff, List.length_nil, List.length_cons] at hb) <;> (first | (exfalso; omega) | contradiction | (conv => whnf)))
    | ((first | (refine callApi (h1) rfl rfl ?_) | (refine callApiD (h1) rfl rfl ?_) | (refine callApi (h2) rfl rfl ?_) | (refine callApiD (h2) rfl rfl ?_) | refine Draws.of cfg_ok (by kernel_rfl) ?_ | refine ⟨(by kernel_rfl : confB _ _ _ _ _ = true), ?_⟩ | refine ⟨by (first | omega | (simp only [lens, Int.toNat_natCast, bsz, Nat.zero_mul, Nat.zero_add]; omega)), ?_⟩ | refine .inl ⟨by omega, by omega, ?_⟩ | refine .inr ⟨⟨by (first | omega | (simp only [lens, Int.toNat_natCast, bsz, Nat.zero_mul, Nat.zero_add]; omega)), by (first | omega | (simp only [lens, Int.toNat_natCast, bsz, Nat.zero_mul, Nat.zero_add]; omega))⟩, ?_⟩ | refine .inl ⟨⟨by (first | omega | (simp only [lens, Int.toNat_natCast, bsz, Nat.zero_mul, Nat.zero_add]; omega)), by (first | omega | (simp only [lens, Int.toNat_natCast, bsz, Nat.zero_mul, Nat.zero_add]; omega))⟩, ?_⟩ | refine ⟨rfl, ?_⟩ | refine ⟨congrArg (Value.int _) (by omega), ?_⟩); (conv => whnf))
    | (refine And.intro ?_ ?_; rotate_left; (conv => whnf); rotate_right))

end Go.Proofs.Ytdbnihckckekcaa
