
/- TradeCancels. -/
import Derived.Test.YtdbnihckckekcaaTLaw
set_option linter.unusedSimpArgs false
set_option linter.unusedVariables false
namespace Go.Proofs.Ytdbnihckckekcaa
open Go Go.RowKit Eng

def lfree (p : Player) : Player := { p with wth := -1, offer := [], agrees := false }
theorem may_lfree {p : Player} (h : mayB p = true) : mayB (lfree p) = true := by
  have h := mayB_iff.1 h
  rw [mayB_iff]
  exact ⟨h.1, h.2.1, h.2.2.1, h.2.2.2.1, h.2.2.2.2.1, .inl ⟨rfl, rfl, rfl⟩⟩
theorem waver_no {q : Player} (id : Int) (h : q.agrees = false) : waverP q id = q := by
  obtain ⟨a, b, c, d, e, f, g⟩ := q
  simp only at h
  subst h
  rfl
theorem putS_new {i n : Int} (hn : 1 ≤ n) (hi : n ≤ stackN i) : putS newB8 i n = (⟨i, n⟩ :: List.replicate 7 ⟨0, 0⟩, 0) := by
  have hz : ¬ i = 0 := by intro h; rw [h] at hi; simp [stackN] at hi; omega
  unfold putS
  rw [if_neg (by omega), if_neg (by rw [newB8_ok]; simp; omega)]
  have hm : ∀ (k : Nat) (p : List Slot × Int), (List.replicate k (⟨0, 0⟩ : Slot)).foldl (fstep (mayI i) i (stackN i)) p = (p.1 ++ List.replicate k ⟨0, 0⟩, p.2) := by
    intro k
    induction k with
    | zero => intro p; simp
    | succ k ih =>
      intro p
      rw [List.replicate_succ, List.foldl_cons, ih, show fstep (mayI i) i (stackN i) p ⟨0, 0⟩ = (p.1 ++ [⟨0, 0⟩], p.2) from fstep_miss (by simp [mayI]; omega)]
      simp
  have e1 : fillS (mayI i) i (stackN i) newB8 n = (newB8, n) := by unfold fillS newB8; rw [hm]; rfl
  rw [e1]
  have h0 : ∀ (k : Nat) (l : List Slot), (List.replicate k (⟨0, 0⟩ : Slot)).foldl (fstep may0 i (stackN i)) (l, 0) = (l ++ List.replicate k ⟨0, 0⟩, 0) := by
    intro k
    induction k with
    | zero => intro l; simp
    | succ k ih =>
      intro l
      rw [List.replicate_succ, List.foldl_cons, show fstep may0 i (stackN i) (l, 0) ⟨0, 0⟩ = (l ++ [⟨0, 0⟩], 0) from fstep_full (by omega), ih]
      simp
  show fillS may0 i (stackN i) newB8 n = _
  unfold fillS newB8
  rw [show (8 : Nat) = 7 + 1 from rfl, List.replicate_succ, List.foldl_cons, show fstep may0 i (stackN i) ([], n) ⟨0, 0⟩ = ([⟨i, n⟩], 0) by
    rw [fstep_hit (by rfl) (by simp only; omega)]
    simp only [show min (stackN i - 0) n = n by omega, Int.sub_self, Int.zero_add, List.nil_append], h0]
  rfl
theorem allGo_zeros : ∀ (k : Nat) (l : List Slot), allGo (List.replicate k ⟨0, 0⟩) l = some l
  | 0, l => rfl
  | k + 1, l => by
    rw [List.replicate_succ]
    have e : putS l 0 0 = (l, 0) := by unfold putS; rw [if_pos (by omega)]
    simp only [allGo, e]
    exact allGo_zeros k l

/-- What was offered and is taken back. -/
theorem cancel_law {p q : Player} (hp : mayB p = true) (hq : mayB q = true) (hne : ¬ p.id = q.id) (hw : p.wth = -1) (hqa : q.agrees = false) (x n : Int) :
    (¬ (offerP p q x n).2.2 = 0 ∧ (offerP p q x n).1 = p ∧ (offerP p q x n).2.1 = q) ∨
    ∃ a, offerP p q x n = (a, q, 0) ∧ mayB a = true ∧ a.wth = q.id ∧ ∃ l, cancelP a q = (freeP a l, q, 0) ∧ mayB (freeP a l) = true ∧ ∀ k, countS l k = countS p.bag k := by
  have hp' := mayB_iff.1 hp
  have hd : dealB p q = true := dealB_iff.2 ⟨hne, hp, hq⟩
  by_cases hE : (takeS p.bag x n).2.2 = 0
  · obtain ⟨n1, n2, n3, n4, n5, n6, n7, n8⟩ := takeS_n hE
    have ha : x.toNat < p.bag.length := by omega
    have hs := badSlot_false.1 (bagOk_iff.1 n4 _ (elt_mem (t := .slot) ha))
    have hput := putS_new (i := (elt .slot p.bag x.toNat).item) n2 (by omega)
    right
    have hoff : offerP p q x n = ({ p with bag := p.bag.set x.toNat (lessS (elt .slot p.bag x.toNat) n), offer := ⟨(elt .slot p.bag x.toNat).item, n⟩ :: List.replicate 7 ⟨0, 0⟩, wth := q.id, agrees := false }, q, 0) := by
      unfold offerP
      rw [if_neg (by rw [hd]; simp), if_neg (by omega), if_neg (by simpa using hE), n8, if_pos hw]
      dsimp only
      rw [hput, if_neg (by simp), waver_no _ hqa]
    refine ⟨_, hoff, ?_, rfl, ?_⟩
    · have := (offer_kept hp hq hne x n).ma
      rw [hoff] at this; exact this
    · have hback := putS_back n4 ha n2 n7
      have hbk := take_bagOk n4 ha n2 n7
      have hcn := fun k => putS_count (l := p.bag.set x.toNat (lessS (elt .slot p.bag x.toNat) n)) (i := (elt .slot p.bag x.toNat).item) (n := n) (by omega) k
      have htk := fun k => take_count n4 ha n2 n7 k
      have hm1 := (offer_kept hp hq hne x n).ma
      rw [hoff] at hm1
      have hbo := (may_offer hm1).1
      dsimp only at hbo hm1
      have hall : allS (p.bag.set x.toNat (lessS (elt .slot p.bag x.toNat) n)) (⟨(elt .slot p.bag x.toNat).item, n⟩ :: List.replicate 7 ⟨0, 0⟩) = ((putS (p.bag.set x.toNat (lessS (elt .slot p.bag x.toNat) n)) (elt .slot p.bag x.toNat).item n).1, 0) := by
        unfold allS
        rw [if_neg (by rw [hbk, hbo]; simp)]
        simp only [allGo]
        rw [if_neg (by rw [hback]; simp), allGo_zeros]
      refine ⟨(putS (p.bag.set x.toNat (lessS (elt .slot p.bag x.toNat) n)) (elt .slot p.bag x.toNat).item n).1, ?_, ?_, fun k => ?_⟩
      · unfold cancelP
        have hd2 : ∀ a : Player, mayB a = true → a.id = p.id → dealB a q = true := fun a h1 h2 => dealB_iff.2 ⟨by rw [h2]; exact hne, h1, hq⟩
        rw [if_neg (by rw [hd2 _ hm1 rfl]; simp)]
        dsimp only
        rw [if_neg (by simp), hall, if_neg (by simp), waver_no _ hqa]
      · exact free_may hm1 (by rw [putS_length, List.length_set]; exact hp'.2.2.1) (putS_bagOk hbk)
      · have e1 := hcn k
        have e2 := htk k
        rw [hback, sel_zero] at e1
        omega
  · left
    have hoff : offerP p q x n = (p, q, (takeS p.bag x n).2.2) := by
      unfold offerP
      rw [if_neg (by rw [hd]; simp), if_neg (by omega), if_pos hE]
    rw [hoff]
    exact ⟨hE, rfl, rfl⟩

set_option maxRecDepth 100000 in
set_option maxHeartbeats 4000000 in
theorem cancels_api (p q : Player) (x0 x1 : Int) (hp : OkP p) (hq : OkP q) : Api Try.prog 6 [playerV p, playerV q, .agg [i64 x0, i64 x1]] (bol true) := by
  have hpr := pair_api p q hp hq
  have haw := awake14_api
  cases hP : pairB p q with
  | false =>
    rw [hP] at hpr
    refine Api.of_fin cfg_ok Try.func6 rfl (nt := 99) rfl rfl ?_
    conv => whnf
    repeat' (first
      | exact trivial
      | ((first | refine .inl ⟨in64 (by omega) (by omega), ?_⟩ | refine .inl ⟨inU64 (by omega) (by omega), ?_⟩ | refine .inl ⟨inU8 (by omega) (by omega), ?_⟩); (conv => whnf))
      | ((refine ⟨fun hb => ?_, fun hb => ?_⟩) <;> (try simp only [decide_eq_true_eq, decide_eq_false_iff_not, Int.not_lt, Int.not_le, beq_iff_eq, beq_eq_false_iff_ne, bne_iff_ne, bne_eq_false_iff_eq, ne_eq, Decidable.not_not, Bool.not_eq_true', Bool.not_eq_false', Bool.not_eq_true, Bool.not_eq_false, Int.toNat_natCast, Bool.and_eq_true, Bool.or_eq_true, Bool.and_eq_false_iff, Bool.or_eq_false_iff, List.length_nil, List.length_cons] at hb) <;> (first | (exfalso; omega) | contradiction | exact Bool.noConfusion (show true = false from hb.symm.trans (by assumption)) | exact Bool.noConfusion (show false = true from hb.symm.trans (by assumption)) | (conv => whnf)))
      | ((first | (refine callApi (hpr) rfl rfl ?_) | (refine callApiD (hpr) rfl rfl ?_) | (refine callApi (haw) rfl rfl ?_) | (refine callApiD (haw) rfl rfl ?_) | refine Draws.of cfg_ok (by kernel_rfl) ?_ | refine ⟨(by kernel_rfl : confB _ _ _ _ _ = true), ?_⟩ | refine ⟨by (first | omega | (simp only [lens, Int.toNat_natCast, bsz, Nat.zero_mul, Nat.zero_add]; omega)), ?_⟩ | refine .inl ⟨by omega, by omega, ?_⟩ | refine .inr ⟨⟨by (first | omega | (simp only [lens, Int.toNat_natCast, bsz, Nat.zero_mul, Nat.zero_add]; omega)), by (first | omega | (simp only [lens, Int.toNat_natCast, bsz, Nat.zero_mul, Nat.zero_add]; omega))⟩, ?_⟩ | refine .inl ⟨⟨by (first | omega | (simp only [lens, Int.toNat_natCast, bsz, Nat.zero_mul, Nat.zero_add]; omega)), by (first | omega | (simp only [lens, Int.toNat_natCast, bsz, Nat.zero_mul, Nat.zero_add]; omega))⟩, ?_⟩ | refine ⟨rfl, ?_⟩ | refine ⟨congrArg (Value.int _) (by omega), ?_⟩); (conv => whnf))
      | (refine And.intro ?_ ?_; rotate_left; (conv => whnf); rotate_right))
  | true =>
    rw [hP] at hpr
    simp only [pairB, Bool.and_eq_true, Bool.not_eq_true', decide_eq_false_iff_not, decide_eq_true_eq] at hP
    obtain ⟨_, hne, hmp, hmq⟩ := hP
    have f1 := lfree_api p
    have f2 := lfree_api q
    have hm1 := may_lfree hmp
    have hm2 := may_lfree hmq
    have hl := cancel_law hm1 hm2 hne rfl rfl x0 x1
    have o1 := offer_api (lfree p) (lfree q) x0 x1 (okP_of hm1) (okP_of hm2)
    have s1 := sameP_self (lfree p) (okP_of hm1)
    have s2 := sameP_self (lfree q) (okP_of hm2)
    have hbg : (lfree p).bag = p.bag := rfl
    have hid : (lfree q).id = q.id := rfl
    change Api _ _ _ (playerV (lfree p)) at f1
    change Api _ _ _ (playerV (lfree q)) at f2
    have hsm := smallP_of hm1
    rcases hl with ⟨l1, l2, l3⟩ | ⟨a, l1, l2, l3, l, l4, l5, l6⟩
    · generalize lfree p = P at *
      generalize lfree q = Q at *
      generalize offerP P Q x0 x1 = R at *
      obtain ⟨R1, R2, R3⟩ := R
      dsimp only at *
      subst l2
      subst l3
      refine Api.of_fin cfg_ok Try.func6 rfl (nt := 99) rfl rfl ?_
      conv => whnf
      repeat' (first
        | exact trivial
        | ((first | refine .inl ⟨in64 (by omega) (by omega), ?_⟩ | refine .inl ⟨inU64 (by omega) (by omega), ?_⟩ | refine .inl ⟨inU8 (by omega) (by omega), ?_⟩); (conv => whnf))
        | ((refine ⟨fun hb => ?_, fun hb => ?_⟩) <;> (try simp only [decide_eq_true_eq, decide_eq_false_iff_not, Int.not_lt, Int.not_le, beq_iff_eq, beq_eq_false_iff_ne, bne_iff_ne, bne_eq_false_iff_eq, ne_eq, Decidable.not_not, Bool.not_eq_true', Bool.not_eq_false', Bool.not_eq_true, Bool.not_eq_false, Int.toNat_natCast, Bool.and_eq_true, Bool.or_eq_true, Bool.and_eq_false_iff, Bool.or_eq_false_iff, List.length_nil, List.length_cons] at hb) <;> (first | (exfalso; omega) | contradiction | exact Bool.noConfusion (show true = false from hb.symm.trans (by assumption)) | exact Bool.noConfusion (show false = true from hb.symm.trans (by assumption)) | (conv => whnf)))
        | ((first | (refine callApi (hpr) rfl rfl ?_) | (refine callApiD (hpr) rfl rfl ?_) | (refine callApi (haw) rfl rfl ?_) | (refine callApiD (haw) rfl rfl ?_) | (refine callApi (f1) rfl rfl ?_) | (refine callApiD (f1) rfl rfl ?_) | (refine callApi (f2) rfl rfl ?_) | (refine callApiD (f2) rfl rfl ?_) | (refine callApi (o1) rfl rfl ?_) | (refine callApiD (o1) rfl rfl ?_) | (refine callApi (s1) rfl rfl ?_) | (refine callApiD (s1) rfl rfl ?_) | (refine callApi (s2) rfl rfl ?_) | (refine callApiD (s2) rfl rfl ?_) | refine Draws.of cfg_ok (by kernel_rfl) ?_ | refine ⟨(by kernel_rfl : confB _ _ _ _ _ = true), ?_⟩ | refine ⟨by (first | omega | (simp only [lens, Int.toNat_natCast, bsz, Nat.zero_mul, Nat.zero_add]; omega)), ?_⟩ | refine .inl ⟨by omega, by omega, ?_⟩ | refine .inr ⟨⟨by (first | omega | (simp only [lens, Int.toNat_natCast, bsz, Nat.zero_mul, Nat.zero_add]; omega)), by (first | omega | (simp only [lens, Int.toNat_natCast, bsz, Nat.zero_mul, Nat.zero_add]; omega))⟩, ?_⟩ | refine .inl ⟨⟨by (first | omega | (simp only [lens, Int.toNat_natCast, bsz, Nat.zero_mul, Nat.zero_add]; omega)), by (first | omega | (simp only [lens, Int.toNat_natCast, bsz, Nat.zero_mul, Nat.zero_add]; omega))⟩, ?_⟩ | refine ⟨rfl, ?_⟩ | refine ⟨congrArg (Value.int _) (by omega), ?_⟩); (conv => whnf))
        | (refine And.intro ?_ ?_; rotate_left; (conv => whnf); rotate_right))
    · rw [l1] at o1
      have o2 := cancel_api a (lfree q) (okP_of l2) (okP_of hm2)
      rw [l4] at o2
      dsimp only at o1 o2
      have hsl := smallP_of l5
      have z1 : (freeP a l).wth = -1 := rfl
      have z2 : (freeP a l).offer.length = 0 := rfl
      have z3 : (freeP a l).agrees = false := rfl
      have z4 : (freeP a l).bag = l := rfl
      rw [← z4] at l6
      generalize freeP a l = F at *
      generalize lfree p = P at *
      generalize lfree q = Q at *
      refine Api.of_fin cfg_ok Try.func6 rfl (nt := 99) rfl rfl ?_
      conv => whnf
      repeat' (first
        | exact trivial
        | ((first | refine .inl ⟨in64 (by omega) (by omega), ?_⟩ | refine .inl ⟨inU64 (by omega) (by omega), ?_⟩ | refine .inl ⟨inU8 (by omega) (by omega), ?_⟩); (conv => whnf))
        | ((refine ⟨fun hb => ?_, fun hb => ?_⟩) <;> (try simp only [decide_eq_true_eq, decide_eq_false_iff_not, Int.not_lt, Int.not_le, beq_iff_eq, beq_eq_false_iff_ne, bne_iff_ne, bne_eq_false_iff_eq, ne_eq, Decidable.not_not, Bool.not_eq_true', Bool.not_eq_false', Bool.not_eq_true, Bool.not_eq_false, Int.toNat_natCast, Bool.and_eq_true, Bool.or_eq_true, Bool.and_eq_false_iff, Bool.or_eq_false_iff, List.length_nil, List.length_cons] at hb) <;> (first | (exfalso; omega) | contradiction | exact Bool.noConfusion (show true = false from hb.symm.trans (by assumption)) | exact Bool.noConfusion (show false = true from hb.symm.trans (by assumption)) | (conv => whnf)))
        | ((first | (refine callApi (hpr) rfl rfl ?_) | (refine callApiD (hpr) rfl rfl ?_) | (refine callApi (haw) rfl rfl ?_) | (refine callApiD (haw) rfl rfl ?_) | (refine callApi (f1) rfl rfl ?_) | (refine callApiD (f1) rfl rfl ?_) | (refine callApi (f2) rfl rfl ?_) | (refine callApiD (f2) rfl rfl ?_) | (refine callApi (o1) rfl rfl ?_) | (refine callApiD (o1) rfl rfl ?_) | (refine callApi (s1) rfl rfl ?_) | (refine callApiD (s1) rfl rfl ?_) | (refine callApi (s2) rfl rfl ?_) | (refine callApiD (s2) rfl rfl ?_) | (refine callApi (o2) rfl rfl ?_) | (refine callApiD (o2) rfl rfl ?_) | refine Draws.of cfg_ok (by kernel_rfl) ?_ | refine ⟨(by kernel_rfl : confB _ _ _ _ _ = true), ?_⟩ | refine ⟨by (first | omega | (simp only [lens, Int.toNat_natCast, bsz, Nat.zero_mul, Nat.zero_add]; omega)), ?_⟩ | refine .inl ⟨by omega, by omega, ?_⟩ | refine .inr ⟨⟨by (first | omega | (simp only [lens, Int.toNat_natCast, bsz, Nat.zero_mul, Nat.zero_add]; omega)), by (first | omega | (simp only [lens, Int.toNat_natCast, bsz, Nat.zero_mul, Nat.zero_add]; omega))⟩, ?_⟩ | refine .inl ⟨⟨by (first | omega | (simp only [lens, Int.toNat_natCast, bsz, Nat.zero_mul, Nat.zero_add]; omega)), by (first | omega | (simp only [lens, Int.toNat_natCast, bsz, Nat.zero_mul, Nat.zero_add]; omega))⟩, ?_⟩ | refine ⟨rfl, ?_⟩ | refine ⟨congrArg (Value.int _) (by omega), ?_⟩); (conv => whnf))
        | (refine And.intro ?_ ?_; rotate_left; (conv => whnf); rotate_right))
      refine Runs.loopS cfg_ok (σ := Nat) [3, 10, 88] (fun k => [.ptr 6 0, .ptr 20 0, .lit (.int .u8 (k : Int))]) (fun _ => [(6, .box (playerC P)), (20, .box (playerC F))]) (fun k => k ≤ 13) (fun k => 13 - k) 0 (by omega) ?_ ?_
      · conv => whnf
        repeat' (first
          | exact trivial
          | ((first | refine .inl ⟨in64 (by omega) (by omega), ?_⟩ | refine .inl ⟨inU64 (by omega) (by omega), ?_⟩ | refine .inl ⟨inU8 (by omega) (by omega), ?_⟩); (conv => whnf))
          | ((refine ⟨fun hb => ?_, fun hb => ?_⟩) <;> (try simp only [decide_eq_true_eq, decide_eq_false_iff_not, Int.not_lt, Int.not_le, beq_iff_eq, beq_eq_false_iff_ne, bne_iff_ne, bne_eq_false_iff_eq, ne_eq, Decidable.not_not, Bool.not_eq_true', Bool.not_eq_false', Bool.not_eq_true, Bool.not_eq_false, Int.toNat_natCast, Bool.and_eq_true, Bool.or_eq_true, Bool.and_eq_false_iff, Bool.or_eq_false_iff, List.length_nil, List.length_cons] at hb) <;> (first | (exfalso; omega) | contradiction | exact Bool.noConfusion (show true = false from hb.symm.trans (by assumption)) | exact Bool.noConfusion (show false = true from hb.symm.trans (by assumption)) | (conv => whnf)))
          | ((first | refine Draws.of cfg_ok (by kernel_rfl) ?_ | refine ⟨(by kernel_rfl : confB _ _ _ _ _ = true), ?_⟩ | refine ⟨by (first | omega | (simp only [lens, Int.toNat_natCast, bsz, Nat.zero_mul, Nat.zero_add]; omega)), ?_⟩ | refine .inl ⟨by omega, by omega, ?_⟩ | refine .inr ⟨⟨by (first | omega | (simp only [lens, Int.toNat_natCast, bsz, Nat.zero_mul, Nat.zero_add]; omega)), by (first | omega | (simp only [lens, Int.toNat_natCast, bsz, Nat.zero_mul, Nat.zero_add]; omega))⟩, ?_⟩ | refine .inl ⟨⟨by (first | omega | (simp only [lens, Int.toNat_natCast, bsz, Nat.zero_mul, Nat.zero_add]; omega)), by (first | omega | (simp only [lens, Int.toNat_natCast, bsz, Nat.zero_mul, Nat.zero_add]; omega))⟩, ?_⟩ | refine ⟨rfl, ?_⟩ | refine ⟨congrArg (Value.int _) (by omega), ?_⟩); (conv => whnf))
          | (refine And.intro ?_ ?_; rotate_left; (conv => whnf); rotate_right))
      · intro k hk
        by_cases hlt : k < 13
        · have c1 := count_api F.bag (k : Int) hsl.bag (by have := hsl.nb; omega)
          have c2 := count_api P.bag (k : Int) hsm.bag (by have := hsm.nb; omega)
          rw [l6] at c1
          conv => whnf
          repeat' (first
            | exact trivial
            | ((first | refine .inl ⟨in64 (by omega) (by omega), ?_⟩ | refine .inl ⟨inU64 (by omega) (by omega), ?_⟩ | refine .inl ⟨inU8 (by omega) (by omega), ?_⟩); (conv => whnf))
            | ((refine ⟨fun hb => ?_, fun hb => ?_⟩) <;> (try simp only [decide_eq_true_eq, decide_eq_false_iff_not, Int.not_lt, Int.not_le, beq_iff_eq, beq_eq_false_iff_ne, bne_iff_ne, bne_eq_false_iff_eq, ne_eq, Decidable.not_not, Bool.not_eq_true', Bool.not_eq_false', Bool.not_eq_true, Bool.not_eq_false, Int.toNat_natCast, Bool.and_eq_true, Bool.or_eq_true, Bool.and_eq_false_iff, Bool.or_eq_false_iff, List.length_nil, List.length_cons] at hb) <;> (first | (exfalso; omega) | contradiction | exact Bool.noConfusion (show true = false from hb.symm.trans (by assumption)) | exact Bool.noConfusion (show false = true from hb.symm.trans (by assumption)) | (conv => whnf)))
            | ((first | (refine callApi (c1) rfl rfl ?_) | (refine callApiD (c1) rfl rfl ?_) | (refine callApi (c2) rfl rfl ?_) | (refine callApiD (c2) rfl rfl ?_) | refine Draws.of cfg_ok (by kernel_rfl) ?_ | refine ⟨(by kernel_rfl : confB _ _ _ _ _ = true), ?_⟩ | refine ⟨by (first | omega | (simp only [lens, Int.toNat_natCast, bsz, Nat.zero_mul, Nat.zero_add]; omega)), ?_⟩ | refine .inl ⟨by omega, by omega, ?_⟩ | refine .inr ⟨⟨by (first | omega | (simp only [lens, Int.toNat_natCast, bsz, Nat.zero_mul, Nat.zero_add]; omega)), by (first | omega | (simp only [lens, Int.toNat_natCast, bsz, Nat.zero_mul, Nat.zero_add]; omega))⟩, ?_⟩ | refine .inl ⟨⟨by (first | omega | (simp only [lens, Int.toNat_natCast, bsz, Nat.zero_mul, Nat.zero_add]; omega)), by (first | omega | (simp only [lens, Int.toNat_natCast, bsz, Nat.zero_mul, Nat.zero_add]; omega))⟩, ?_⟩ | refine ⟨rfl, ?_⟩ | refine ⟨congrArg (Value.int _) (by omega), ?_⟩); (conv => whnf))
            | (refine And.intro ?_ ?_; rotate_left; (conv => whnf); rotate_right))
          refine .to (k + 1) hlt (by omega) ?_
          conv => whnf
          repeat' (first
            | exact trivial
            | ((first | refine .inl ⟨in64 (by omega) (by omega), ?_⟩ | refine .inl ⟨inU64 (by omega) (by omega), ?_⟩ | refine .inl ⟨inU8 (by omega) (by omega), ?_⟩); (conv => whnf))
            | ((refine ⟨fun hb => ?_, fun hb => ?_⟩) <;> (try simp only [decide_eq_true_eq, decide_eq_false_iff_not, Int.not_lt, Int.not_le, beq_iff_eq, beq_eq_false_iff_ne, bne_iff_ne, bne_eq_false_iff_eq, ne_eq, Decidable.not_not, Bool.not_eq_true', Bool.not_eq_false', Bool.not_eq_true, Bool.not_eq_false, Int.toNat_natCast, Bool.and_eq_true, Bool.or_eq_true, Bool.and_eq_false_iff, Bool.or_eq_false_iff, List.length_nil, List.length_cons] at hb) <;> (first | (exfalso; omega) | contradiction | exact Bool.noConfusion (show true = false from hb.symm.trans (by assumption)) | exact Bool.noConfusion (show false = true from hb.symm.trans (by assumption)) | (conv => whnf)))
            | ((first | refine Draws.of cfg_ok (by kernel_rfl) ?_ | refine ⟨(by kernel_rfl : confB _ _ _ _ _ = true), ?_⟩ | refine ⟨by (first | omega | (simp only [lens, Int.toNat_natCast, bsz, Nat.zero_mul, Nat.zero_add]; omega)), ?_⟩ | refine .inl ⟨by omega, by omega, ?_⟩ | refine .inr ⟨⟨by (first | omega | (simp only [lens, Int.toNat_natCast, bsz, Nat.zero_mul, Nat.zero_add]; omega)), by (first | omega | (simp only [lens, Int.toNat_natCast, bsz, Nat.zero_mul, Nat.zero_add]; omega))⟩, ?_⟩ | refine .inl ⟨⟨by (first | omega | (simp only [lens, Int.toNat_natCast, bsz, Nat.zero_mul, Nat.zero_add]; omega)), by (first | omega | (simp only [lens, Int.toNat_natCast, bsz, Nat.zero_mul, Nat.zero_add]; omega))⟩, ?_⟩ | refine ⟨rfl, ?_⟩ | refine ⟨congrArg (Value.int _) (by omega), ?_⟩); (conv => whnf))
            | (refine And.intro ?_ ?_; rotate_left; (conv => whnf); rotate_right))
        · obtain rfl : k = 13 := by omega
          conv => whnf
          repeat' (first
            | exact trivial
            | ((first | refine .inl ⟨in64 (by omega) (by omega), ?_⟩ | refine .inl ⟨inU64 (by omega) (by omega), ?_⟩ | refine .inl ⟨inU8 (by omega) (by omega), ?_⟩); (conv => whnf))
            | ((refine ⟨fun hb => ?_, fun hb => ?_⟩) <;> (try simp only [decide_eq_true_eq, decide_eq_false_iff_not, Int.not_lt, Int.not_le, beq_iff_eq, beq_eq_false_iff_ne, bne_iff_ne, bne_eq_false_iff_eq, ne_eq, Decidable.not_not, Bool.not_eq_true', Bool.not_eq_false', Bool.not_eq_true, Bool.not_eq_false, Int.toNat_natCast, Bool.and_eq_true, Bool.or_eq_true, Bool.and_eq_false_iff, Bool.or_eq_false_iff, List.length_nil, List.length_cons] at hb) <;> (first | (exfalso; omega) | contradiction | exact Bool.noConfusion (show true = false from hb.symm.trans (by assumption)) | exact Bool.noConfusion (show false = true from hb.symm.trans (by assumption)) | (conv => whnf)))
            | ((first | (refine callApi (haw) rfl rfl ?_) | (refine callApiD (haw) rfl rfl ?_) | refine Draws.of cfg_ok (by kernel_rfl) ?_ | refine ⟨(by kernel_rfl : confB _ _ _ _ _ = true), ?_⟩ | refine ⟨by (first | omega | (simp only [lens, Int.toNat_natCast, bsz, Nat.zero_mul, Nat.zero_add]; omega)), ?_⟩ | refine .inl ⟨by omega, by omega, ?_⟩ | refine .inr ⟨⟨by (first | omega | (simp only [lens, Int.toNat_natCast, bsz, Nat.zero_mul, Nat.zero_add]; omega)), by (first | omega | (simp only [lens, Int.toNat_natCast, bsz, Nat.zero_mul, Nat.zero_add]; omega))⟩, ?_⟩ | refine .inl ⟨⟨by (first | omega | (simp only [lens, Int.toNat_natCast, bsz, Nat.zero_mul, Nat.zero_add]; omega)), by (first | omega | (simp only [lens, Int.toNat_natCast, bsz, Nat.zero_mul, Nat.zero_add]; omega))⟩, ?_⟩ | refine ⟨rfl, ?_⟩ | refine ⟨congrArg (Value.int _) (by omega), ?_⟩); (conv => whnf))
            | (refine And.intro ?_ ?_; rotate_left; (conv => whnf); rotate_right))

end Go.Proofs.Ytdbnihckckekcaa
