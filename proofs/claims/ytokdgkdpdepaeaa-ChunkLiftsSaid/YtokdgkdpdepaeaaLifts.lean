
/- ChunkLifts. -/
import Derived.Test.YtokdgkdpdepaeaaAwake
import Derived.Test.YtokdgkdpdepaeaaCLift
set_option linter.unusedSimpArgs false
set_option linter.unusedVariables false
namespace Go.Proofs.Ytokdgkdpdepaeaa
open Go Go.RowKit Eng

theorem liftC_right {c : Chunk} (h : rightB c = true) (t : Int) : liftC c t = ({ c with heaps := keptH t c.heaps }, hitsH t c.heaps) := by unfold liftC; rw [if_pos h]
theorem any_filter_false {c : List Heap} {p q : Heap → Bool} (h : c.any p = false) : (c.filter q).any p = false := by
  rw [List.any_eq_false] at h ⊢
  intro x hx
  exact h x ((List.mem_filter.1 hx).1)
theorem right_heapsOf {c : Chunk} (h : rightB c = true) {l : List Heap} (hl : l.length ≤ 32) (hb : l.any badHeap = false) : rightB { c with heaps := l } = true := by
  obtain ⟨h1, h2, h3⟩ := (right_iff c).1 h
  rw [right_iff]
  refine ⟨?_, h2, hb⟩
  simp only [headB, Bool.and_eq_true, decide_eq_true_eq] at h1 ⊢
  exact ⟨h1.1, h1.2.1, h1.2.2.1, h1.2.2.2.1, h1.2.2.2.2.1, by omega⟩
theorem right_keep {c : Chunk} (h : rightB c = true) (t : Int) : rightB { c with heaps := keptH t c.heaps } = true :=
  right_heapsOf h (Nat.le_trans (List.length_filter_le _ _) (right_heaps h)) (any_filter_false ((right_iff c).1 h).2.2)
theorem okC_heapsOf {c : Chunk} (hc : OkC c) {l : List Heap} (hl : l.length ≤ big) (hk : ∀ h ∈ l, okHeap h) : OkC { c with heaps := l } := ⟨hc.cells, hk, hc.boxes, hc.nc, hl, hc.nb⟩
theorem okC_keep {c : Chunk} (hc : OkC c) (t : Int) : OkC { c with heaps := keptH t c.heaps } :=
  okC_heapsOf hc (Nat.le_trans (List.length_filter_le _ _) hc.nh) fun h hh => hc.heaps h ((List.mem_filter.1 hh).1)
theorem hits_keep (t : Int) (l : List Heap) : hitsH t (keptH t l) = [] := by
  unfold hitsH keptH
  rw [List.filter_filter, List.filter_eq_nil_iff.2 fun x _ => by simp [hit, miss]]; rfl
theorem hits_keep2 {t u : Int} {l : List Heap} (h : hitsH t l = []) : hitsH t (keptH u l) = [] := by
  unfold hitsH keptH at *
  rw [List.filter_filter]
  have h2 : l.filter (hit t) = [] := by simpa using h
  rw [List.filter_eq_nil_iff] at h2
  rw [List.filter_eq_nil_iff.2 fun x hx => by have := h2 x hx; simp_all]; rfl
theorem keep_keep (t : Int) (l : List Heap) : keptH t (keptH t l) = keptH t l := by
  unfold keptH
  rw [List.filter_filter]; simp
theorem hits_app (t : Int) (l : List Heap) (x : Heap) : hitsH t (l ++ [x]) = hitsH t l ++ (if x.cell = t then [x.slot] else []) := by
  unfold hitsH
  rw [List.filter_append, List.map_append]
  by_cases hc : x.cell = t
  · rw [if_pos hc]; simp [hit, hc]
  · rw [if_neg hc]; simp [hit, hc]
/-- What Drop does to a right chunk. -/
theorem dropC_right {c : Chunk} (h : rightB c = true) {t : Int} (ht : 0 ≤ t) (ht2 : t < 64) (s : Slot) :
    (¬ (dropC c t s).2 = 0 ∧ (dropC c t s).1 = c) ∨ ((dropC c t s) = ({ c with heaps := c.heaps ++ [⟨t, s⟩] }, 0) ∧ rightB { c with heaps := c.heaps ++ [⟨t, s⟩] } = true ∧ c.heaps.length < 32) := by
  unfold dropC
  rw [if_neg (by rw [h]; simp), if_neg (by omega)]
  cases hs : someB s with
  | false => left; exact ⟨by simp, by simp⟩
  | true =>
    rw [if_neg (by simp)]
    by_cases h32 : 32 ≤ c.heaps.length
    · rw [if_pos h32]; left; exact ⟨by simp, by simp⟩
    · rw [if_neg h32]
      right
      refine ⟨rfl, right_heapsOf h (by simp; omega) ?_, by omega⟩
      rw [List.any_append, ((right_iff c).1 h).2.2]
      simp [badHeap, hs, ht, ht2]
theorem kept_split {t : Int} {l : List Heap} {k : Nat} (hk : k < l.length) (hc : ¬ (elt .heap l k).cell = t) :
    (keptH t (l.take k)).length < (keptH t l).length ∧ elt .heap (keptH t l) (keptH t (l.take k)).length = elt .heap l k := by
  have e : keptH t l = keptH t (l.take k) ++ elt .heap l k :: keptH t (l.drop (k + 1)) := by
    conv => lhs; rw [← List.take_append_drop k l, drop_elt (t := .heap) hk]
    unfold keptH
    rw [List.filter_append, List.filter_cons, if_pos (by simp [miss, hc])]
  refine ⟨by rw [e]; simp, ?_⟩
  unfold elt at e ⊢
  rw [e, List.getElem?_append_right (Nat.le_refl _), Nat.sub_self]; rfl

theorem lend2 {P : Program} {fid : FuncId} {tt : Ty} {a b : List (El tt)} {n : Nat} {v : AV} (h : Api P fid [.vec tt a, .vec tt b] v) (hn : n = b.length) (hv : scalB v = true) : Ev1 P fid [.vec tt a, .own tt 1 0 n none] [(1, .row tt b)] v [(1, .row tt b)] := by
  subst hn
  refine Api.lend h ?_ hv
  cases tt <;> (conv => whnf) <;> exact ⟨by omega, by rw [List.drop_zero, List.take_length]; rfl⟩

set_option maxRecDepth 100000 in
set_option maxHeartbeats 4000000 in
theorem lifts_api (c : Chunk) (x0 x1 : Int) (l : List (El .slot)) (hc : OkC c) (hl : l.length * 16 ≤ 140737488351232) (hw : ∀ s ∈ l, okSlot s) : Api Try.prog 6 [chunkV c, .agg [i64 x0, i64 x1], .vec .slot l] (bol true) := by
  have hgr := great_api c hc
  have hrt := cright_api c hc
  have haw := awake_api
  cases hG : greatB c with
  | true =>
    rw [hG] at hgr
    refine Api.of_fin cfg_ok Try.func6 rfl (nt := 157) rfl rfl ?_
    conv => whnf
    repeat' (first
      | exact trivial
      | ((first | refine .inl ⟨in64 (by omega) (by omega), ?_⟩ | refine .inl ⟨inU64 (by omega) (by omega), ?_⟩ | refine .inl ⟨inU8 (by omega) (by omega), ?_⟩); (conv => whnf))
      | ((refine ⟨fun hb => ?_, fun hb => ?_⟩) <;> (try simp only [decide_eq_true_eq, decide_eq_false_iff_not, Int.not_lt, Int.not_le, beq_iff_eq, beq_eq_false_iff_ne, bne_iff_ne, bne_eq_false_iff_eq, ne_eq, Decidable.not_not, Bool.not_eq_true', Bool.not_eq_false', Bool.not_eq_true, Bool.not_eq_false, Int.toNat_natCast, Bool.and_eq_true, Bool.or_eq_true, Bool.and_eq_false_iff, Bool.or_eq_false_iff, List.length_nil, List.length_cons] at hb) <;> (first | (exfalso; omega) | contradiction | exact Bool.noConfusion (show true = false from hb.symm.trans (by assumption)) | exact Bool.noConfusion (show false = true from hb.symm.trans (by assumption)) | (conv => whnf)))
      | ((first | (refine callApi (hgr) rfl rfl ?_) | (refine callApiD (hgr) rfl rfl ?_) | (refine callApi (haw) rfl rfl ?_) | (refine callApiD (haw) rfl rfl ?_) | refine Draws.of cfg_ok (by kernel_rfl) ?_ | refine ⟨(by kernel_rfl : confB _ _ _ _ _ = true), ?_⟩ | refine ⟨by (first | omega | (simp only [lens, Int.toNat_natCast, bsz, Nat.zero_mul, Nat.zero_add]; omega)), ?_⟩ | refine .inl ⟨by omega, by omega, ?_⟩ | refine .inr ⟨⟨by (first | omega | (simp only [lens, Int.toNat_natCast, bsz, Nat.zero_mul, Nat.zero_add]; omega)), by (first | omega | (simp only [lens, Int.toNat_natCast, bsz, Nat.zero_mul, Nat.zero_add]; omega))⟩, ?_⟩ | refine .inl ⟨⟨by (first | omega | (simp only [lens, Int.toNat_natCast, bsz, Nat.zero_mul, Nat.zero_add]; omega)), by (first | omega | (simp only [lens, Int.toNat_natCast, bsz, Nat.zero_mul, Nat.zero_add]; omega))⟩, ?_⟩ | refine ⟨rfl, ?_⟩ | refine ⟨congrArg (Value.int _) (by omega), ?_⟩); (conv => whnf))
      | (refine And.intro ?_ ?_; rotate_left; (conv => whnf); rotate_right))
  | false =>
    rw [hG] at hgr
    cases hR : rightB c with
    | false =>
      rw [hR] at hrt
      refine Api.of_fin cfg_ok Try.func6 rfl (nt := 157) rfl rfl ?_
      conv => whnf
      repeat' (first
        | exact trivial
        | ((first | refine .inl ⟨in64 (by omega) (by omega), ?_⟩ | refine .inl ⟨inU64 (by omega) (by omega), ?_⟩ | refine .inl ⟨inU8 (by omega) (by omega), ?_⟩); (conv => whnf))
        | ((refine ⟨fun hb => ?_, fun hb => ?_⟩) <;> (try simp only [decide_eq_true_eq, decide_eq_false_iff_not, Int.not_lt, Int.not_le, beq_iff_eq, beq_eq_false_iff_ne, bne_iff_ne, bne_eq_false_iff_eq, ne_eq, Decidable.not_not, Bool.not_eq_true', Bool.not_eq_false', Bool.not_eq_true, Bool.not_eq_false, Int.toNat_natCast, Bool.and_eq_true, Bool.or_eq_true, Bool.and_eq_false_iff, Bool.or_eq_false_iff, List.length_nil, List.length_cons] at hb) <;> (first | (exfalso; omega) | contradiction | exact Bool.noConfusion (show true = false from hb.symm.trans (by assumption)) | exact Bool.noConfusion (show false = true from hb.symm.trans (by assumption)) | (conv => whnf)))
        | ((first | (refine callApi (hgr) rfl rfl ?_) | (refine callApiD (hgr) rfl rfl ?_) | (refine callApi (hrt) rfl rfl ?_) | (refine callApiD (hrt) rfl rfl ?_) | (refine callApi (haw) rfl rfl ?_) | (refine callApiD (haw) rfl rfl ?_) | refine Draws.of cfg_ok (by kernel_rfl) ?_ | refine ⟨(by kernel_rfl : confB _ _ _ _ _ = true), ?_⟩ | refine ⟨by (first | omega | (simp only [lens, Int.toNat_natCast, bsz, Nat.zero_mul, Nat.zero_add]; omega)), ?_⟩ | refine .inl ⟨by omega, by omega, ?_⟩ | refine .inr ⟨⟨by (first | omega | (simp only [lens, Int.toNat_natCast, bsz, Nat.zero_mul, Nat.zero_add]; omega)), by (first | omega | (simp only [lens, Int.toNat_natCast, bsz, Nat.zero_mul, Nat.zero_add]; omega))⟩, ?_⟩ | refine .inl ⟨⟨by (first | omega | (simp only [lens, Int.toNat_natCast, bsz, Nat.zero_mul, Nat.zero_add]; omega)), by (first | omega | (simp only [lens, Int.toNat_natCast, bsz, Nat.zero_mul, Nat.zero_add]; omega))⟩, ?_⟩ | refine ⟨rfl, ?_⟩ | refine ⟨congrArg (Value.int _) (by omega), ?_⟩); (conv => whnf))
        | (refine And.intro ?_ ?_; rotate_left; (conv => whnf); rotate_right))
    | true =>
      rw [hR] at hrt
      have hce := cells_api x0 x1
      have ha0 : 0 ≤ x0 % 64 := by omega
      have ha1 : x0 % 64 < 64 := by omega
      have hb0 : 0 ≤ x1 % 64 := by omega
      have hb1 : x1 % 64 < 64 := by omega
      generalize x0 % 64 = a at *
      generalize x1 % 64 = b at *
      have hL1 := lift_api c a hc (fitC_right hR)
      rw [liftC_right hR] at hL1
      have hR1 := right_keep hR a
      have hc1 := okC_keep hc a
      have hL2 := lift_api _ b hc1 (fitC_right hR1)
      rw [liftC_right hR1] at hL2
      have hR2 := right_keep hR1 b
      have hc2 := okC_keep hc1 b
      have hno : hitsH a (keptH b (keptH a c.heaps)) = [] := hits_keep2 (hits_keep a c.heaps)
      dsimp only at hL1 hL2 hR2 hc2
      generalize hitsH a c.heaps = G1 at *
      generalize hitsH b (keptH a c.heaps) = G2 at *
      obtain ⟨C1, hC1⟩ : ∃ C1 : Chunk, C1 = { c with heaps := keptH a c.heaps } := ⟨_, rfl⟩
      rw [← hC1] at hL1
      obtain ⟨C2, hC2⟩ : ∃ C2 : Chunk, C2 = { c with heaps := keptH b (keptH a c.heaps) } := ⟨_, rfl⟩
      have hno2 : hitsH a C2.heaps = [] := by rw [hC2]; exact hno
      change Api _ _ [chunkV { c with heaps := keptH a c.heaps }, _] _ at hL2
      rw [← hC1] at hL2
      rw [← hC2] at hL2 hR2 hc2
      clear hC1 hC2 hno hR1 hc1
      refine Api.of_fin cfg_ok Try.func6 rfl (nt := 157) rfl rfl ?_
      conv => whnf
      repeat' (first
        | exact trivial
        | ((first | refine .inl ⟨in64 (by omega) (by omega), ?_⟩ | refine .inl ⟨inU64 (by omega) (by omega), ?_⟩ | refine .inl ⟨inU8 (by omega) (by omega), ?_⟩); (conv => whnf))
        | ((refine ⟨fun hb => ?_, fun hb => ?_⟩) <;> (try simp only [decide_eq_true_eq, decide_eq_false_iff_not, Int.not_lt, Int.not_le, beq_iff_eq, beq_eq_false_iff_ne, bne_iff_ne, bne_eq_false_iff_eq, ne_eq, Decidable.not_not, Bool.not_eq_true', Bool.not_eq_false', Bool.not_eq_true, Bool.not_eq_false, Int.toNat_natCast, Bool.and_eq_true, Bool.or_eq_true, Bool.and_eq_false_iff, Bool.or_eq_false_iff, List.length_nil, List.length_cons] at hb) <;> (first | (exfalso; omega) | contradiction | exact Bool.noConfusion (show true = false from hb.symm.trans (by assumption)) | exact Bool.noConfusion (show false = true from hb.symm.trans (by assumption)) | (conv => whnf)))
        | ((first | (refine callApi (hgr) rfl rfl ?_) | (refine callApiD (hgr) rfl rfl ?_) | (refine callApi (hrt) rfl rfl ?_) | (refine callApiD (hrt) rfl rfl ?_) | (refine callApi (haw) rfl rfl ?_) | (refine callApiD (haw) rfl rfl ?_) | (refine callApi (hce) rfl rfl ?_) | (refine callApiD (hce) rfl rfl ?_) | (refine callApi (hL1) rfl rfl ?_) | (refine callApiD (hL1) rfl rfl ?_) | (refine callApi (hL2) rfl rfl ?_) | (refine callApiD (hL2) rfl rfl ?_) | refine Draws.of cfg_ok (by kernel_rfl) ?_ | refine ⟨(by kernel_rfl : confB _ _ _ _ _ = true), ?_⟩ | refine ⟨by (first | omega | (simp only [lens, Int.toNat_natCast, bsz, Nat.zero_mul, Nat.zero_add]; omega)), ?_⟩ | refine .inl ⟨by omega, by omega, ?_⟩ | refine .inr ⟨⟨by (first | omega | (simp only [lens, Int.toNat_natCast, bsz, Nat.zero_mul, Nat.zero_add]; omega)), by (first | omega | (simp only [lens, Int.toNat_natCast, bsz, Nat.zero_mul, Nat.zero_add]; omega))⟩, ?_⟩ | refine .inl ⟨⟨by (first | omega | (simp only [lens, Int.toNat_natCast, bsz, Nat.zero_mul, Nat.zero_add]; omega)), by (first | omega | (simp only [lens, Int.toNat_natCast, bsz, Nat.zero_mul, Nat.zero_add]; omega))⟩, ?_⟩ | refine ⟨rfl, ?_⟩ | refine ⟨congrArg (Value.int _) (by omega), ?_⟩); (conv => whnf))
        | (refine And.intro ?_ ?_; rotate_left; (conv => whnf); rotate_right))
      refine Runs.loopS cfg_ok (σ := Nat × Chunk) [2, 7, 8, 9, 11, 12] (fun (k, d) => [.vec .slot l, i64 a, i64 b, .ptr 18 0, .own .slot 190001 0 (hitsH a d.heaps).length none, i64 k])
        (fun (k, d) => [(18, .box (chunkC d)), (190001, .row .slot (hitsH a d.heaps))]) (fun (k, d) => k ≤ 10 ∧ rightB d = true ∧ OkC d) (fun (k, _) => 10 - k) (0, C2) ⟨by omega, hR2, hc2⟩ ?_ ?_
      · conv => whnf
        repeat' (first
          | exact trivial
          | ((first | refine .inl ⟨in64 (by omega) (by omega), ?_⟩ | refine .inl ⟨inU64 (by omega) (by omega), ?_⟩ | refine .inl ⟨inU8 (by omega) (by omega), ?_⟩); (conv => whnf))
          | ((refine ⟨fun hb => ?_, fun hb => ?_⟩) <;> (try simp only [decide_eq_true_eq, decide_eq_false_iff_not, Int.not_lt, Int.not_le, beq_iff_eq, beq_eq_false_iff_ne, bne_iff_ne, bne_eq_false_iff_eq, ne_eq, Decidable.not_not, Bool.not_eq_true', Bool.not_eq_false', Bool.not_eq_true, Bool.not_eq_false, Int.toNat_natCast, Bool.and_eq_true, Bool.or_eq_true, Bool.and_eq_false_iff, Bool.or_eq_false_iff, List.length_nil, List.length_cons] at hb) <;> (first | (exfalso; omega) | contradiction | exact Bool.noConfusion (show true = false from hb.symm.trans (by assumption)) | exact Bool.noConfusion (show false = true from hb.symm.trans (by assumption)) | (conv => whnf)))
          | ((first | refine Draws.of cfg_ok (by kernel_rfl) ?_ | refine ⟨(by kernel_rfl : confB _ _ _ _ _ = true), ?_⟩ | refine ⟨by (first | omega | (simp only [lens, Int.toNat_natCast, bsz, Nat.zero_mul, Nat.zero_add]; omega)), ?_⟩ | refine .inl ⟨by omega, by omega, ?_⟩ | refine .inr ⟨⟨by (first | omega | (simp only [lens, Int.toNat_natCast, bsz, Nat.zero_mul, Nat.zero_add]; omega)), by (first | omega | (simp only [lens, Int.toNat_natCast, bsz, Nat.zero_mul, Nat.zero_add]; omega))⟩, ?_⟩ | refine .inl ⟨⟨by (first | omega | (simp only [lens, Int.toNat_natCast, bsz, Nat.zero_mul, Nat.zero_add]; omega)), by (first | omega | (simp only [lens, Int.toNat_natCast, bsz, Nat.zero_mul, Nat.zero_add]; omega))⟩, ?_⟩ | refine ⟨rfl, ?_⟩ | refine ⟨congrArg (Value.int _) (by omega), ?_⟩); (conv => whnf))
          | (refine And.intro ?_ ?_; rotate_left; (conv => whnf); rotate_right))
        all_goals first | (rw [hno2]; done) | (rw [hno2]; rfl) | exact hno2
      · rintro ⟨k, d⟩ ⟨hk, hRd, hcd⟩
        dsimp only
        have hhl := hitsH_le (cell := a) (Nat.le_refl d.heaps.length)
        rw [List.take_length] at hhl
        have h32 := right_heaps hRd
        by_cases hlt : k < l.length ∧ k < 10
        · obtain ⟨hl1, hl2⟩ := hlt
          have hs := hw _ (elt_mem (t := .slot) hl1)
          have hE : elt .slot l (k : Int).toNat = elt .slot l k := rfl
          obtain ⟨at_, hat, hat0, hat1⟩ : ∃ at_ : Int, (at_ = if Int.tmod (k : Int) 2 = 0 then a else b) ∧ 0 ≤ at_ ∧ at_ < 64 := by
            by_cases h2 : Int.tmod (k : Int) 2 = 0
            · exact ⟨a, by rw [if_pos h2], ha0, ha1⟩
            · exact ⟨b, by rw [if_neg h2], hb0, hb1⟩
          have hD := drop_api d at_ (elt .slot l k) hcd (fitC_right hRd) hs
          rcases dropC_right hRd hat0 hat1 (elt .slot l k) with ⟨e1, e2⟩ | ⟨e1, e2, e3⟩
          · rw [e2] at hD
            generalize (dropC d at_ (elt .slot l k)).2 = er at *
            by_cases h2 : Int.tmod (k : Int) 2 = 0
            all_goals
              first | rw [if_pos h2] at hat | rw [if_neg h2] at hat
              subst hat
              conv => whnf
              repeat' (first
                | exact trivial
                | ((first | refine .inl ⟨in64 (by omega) (by omega), ?_⟩ | refine .inl ⟨inU64 (by omega) (by omega), ?_⟩ | refine .inl ⟨inU8 (by omega) (by omega), ?_⟩); (conv => whnf))
                | ((refine ⟨fun hb => ?_, fun hb => ?_⟩) <;> (try simp only [decide_eq_true_eq, decide_eq_false_iff_not, Int.not_lt, Int.not_le, beq_iff_eq, beq_eq_false_iff_ne, bne_iff_ne, bne_eq_false_iff_eq, ne_eq, Decidable.not_not, Bool.not_eq_true', Bool.not_eq_false', Bool.not_eq_true, Bool.not_eq_false, Int.toNat_natCast, Bool.and_eq_true, Bool.or_eq_true, Bool.and_eq_false_iff, Bool.or_eq_false_iff, List.length_nil, List.length_cons] at hb) <;> (first | (exfalso; omega) | contradiction | exact Bool.noConfusion (show true = false from hb.symm.trans (by assumption)) | exact Bool.noConfusion (show false = true from hb.symm.trans (by assumption)) | (conv => whnf)))
                | (refine .inr ⟨(by decide : (2 : Int) ≠ 0), ?_⟩; (conv => whnf))
                | ((first | (refine callApi (hD) rfl rfl ?_) | (refine callApiD (hD) rfl rfl ?_) | refine Draws.of cfg_ok (by kernel_rfl) ?_ | refine ⟨(by kernel_rfl : confB _ _ _ _ _ = true), ?_⟩ | refine ⟨by (first | omega | (simp only [lens, Int.toNat_natCast, bsz, Nat.zero_mul, Nat.zero_add]; omega)), ?_⟩ | refine .inl ⟨by omega, by omega, ?_⟩ | refine .inr ⟨⟨by (first | omega | (simp only [lens, Int.toNat_natCast, bsz, Nat.zero_mul, Nat.zero_add]; omega)), by (first | omega | (simp only [lens, Int.toNat_natCast, bsz, Nat.zero_mul, Nat.zero_add]; omega))⟩, ?_⟩ | refine .inl ⟨⟨by (first | omega | (simp only [lens, Int.toNat_natCast, bsz, Nat.zero_mul, Nat.zero_add]; omega)), by (first | omega | (simp only [lens, Int.toNat_natCast, bsz, Nat.zero_mul, Nat.zero_add]; omega))⟩, ?_⟩ | refine ⟨rfl, ?_⟩ | refine ⟨congrArg (Value.int _) (by omega), ?_⟩); (conv => whnf))
                | (refine And.intro ?_ ?_; rotate_left; (conv => whnf); rotate_right))
              refine .to (k + 1, d) ⟨by dsimp only; omega, hRd, hcd⟩ (by dsimp only; omega) ?_
              conv => whnf
              repeat' (first
                | exact trivial
                | ((first | refine .inl ⟨in64 (by omega) (by omega), ?_⟩ | refine .inl ⟨inU64 (by omega) (by omega), ?_⟩ | refine .inl ⟨inU8 (by omega) (by omega), ?_⟩); (conv => whnf))
                | ((refine ⟨fun hb => ?_, fun hb => ?_⟩) <;> (try simp only [decide_eq_true_eq, decide_eq_false_iff_not, Int.not_lt, Int.not_le, beq_iff_eq, beq_eq_false_iff_ne, bne_iff_ne, bne_eq_false_iff_eq, ne_eq, Decidable.not_not, Bool.not_eq_true', Bool.not_eq_false', Bool.not_eq_true, Bool.not_eq_false, Int.toNat_natCast, Bool.and_eq_true, Bool.or_eq_true, Bool.and_eq_false_iff, Bool.or_eq_false_iff, List.length_nil, List.length_cons] at hb) <;> (first | (exfalso; omega) | contradiction | exact Bool.noConfusion (show true = false from hb.symm.trans (by assumption)) | exact Bool.noConfusion (show false = true from hb.symm.trans (by assumption)) | (conv => whnf)))
                | ((first | refine Draws.of cfg_ok (by kernel_rfl) ?_ | refine ⟨(by kernel_rfl : confB _ _ _ _ _ = true), ?_⟩ | refine ⟨by (first | omega | (simp only [lens, Int.toNat_natCast, bsz, Nat.zero_mul, Nat.zero_add]; omega)), ?_⟩ | refine .inl ⟨by omega, by omega, ?_⟩ | refine .inr ⟨⟨by (first | omega | (simp only [lens, Int.toNat_natCast, bsz, Nat.zero_mul, Nat.zero_add]; omega)), by (first | omega | (simp only [lens, Int.toNat_natCast, bsz, Nat.zero_mul, Nat.zero_add]; omega))⟩, ?_⟩ | refine .inl ⟨⟨by (first | omega | (simp only [lens, Int.toNat_natCast, bsz, Nat.zero_mul, Nat.zero_add]; omega)), by (first | omega | (simp only [lens, Int.toNat_natCast, bsz, Nat.zero_mul, Nat.zero_add]; omega))⟩, ?_⟩ | refine ⟨rfl, ?_⟩ | refine ⟨congrArg (Value.int _) (by omega), ?_⟩); (conv => whnf))
                | (refine And.intro ?_ ?_; rotate_left; (conv => whnf); rotate_right))
              all_goals first | rfl | exact List.take_length | skip
          · rw [e1] at hD
            have hcD : OkC { d with heaps := d.heaps ++ [⟨at_, elt .slot l k⟩] } := okC_heapsOf hcd (by simp; unfold big; omega) (fun h hh => by
              rcases List.mem_append.1 hh with hh | hh
              · exact hcd.heaps h hh
              · rw [List.mem_singleton] at hh; subst hh; exact hs)
            have hHn := hits_app a d.heaps ⟨at_, elt .slot l k⟩
            dsimp only at hD hHn
            obtain ⟨D, hDe⟩ : ∃ D : Chunk, D = { d with heaps := d.heaps ++ [⟨at_, elt .slot l k⟩] } := ⟨_, rfl⟩
            change Api _ _ _ (.tup [chunkV { d with heaps := d.heaps ++ [⟨at_, elt .slot l k⟩] }, _]) at hD
            have hHD : hitsH a D.heaps = hitsH a d.heaps ++ (if at_ = a then [elt .slot l k] else []) := by rw [hDe]; exact hHn
            rw [← hDe] at hD e2 hcD
            clear hDe hHn e1
            generalize hitsH a d.heaps = H at *
            by_cases h2 : Int.tmod (k : Int) 2 = 0
            · rw [if_pos h2] at hat
              subst hat
              rw [if_pos rfl] at hHD
              conv => whnf
              repeat' (first
                | exact trivial
                | ((first | refine .inl ⟨in64 (by omega) (by omega), ?_⟩ | refine .inl ⟨inU64 (by omega) (by omega), ?_⟩ | refine .inl ⟨inU8 (by omega) (by omega), ?_⟩); (conv => whnf))
                | ((refine ⟨fun hb => ?_, fun hb => ?_⟩) <;> (try simp only [decide_eq_true_eq, decide_eq_false_iff_not, Int.not_lt, Int.not_le, beq_iff_eq, beq_eq_false_iff_ne, bne_iff_ne, bne_eq_false_iff_eq, ne_eq, Decidable.not_not, Bool.not_eq_true', Bool.not_eq_false', Bool.not_eq_true, Bool.not_eq_false, Int.toNat_natCast, Bool.and_eq_true, Bool.or_eq_true, Bool.and_eq_false_iff, Bool.or_eq_false_iff, List.length_nil, List.length_cons] at hb) <;> (first | (exfalso; omega) | contradiction | exact Bool.noConfusion (show true = false from hb.symm.trans (by assumption)) | exact Bool.noConfusion (show false = true from hb.symm.trans (by assumption)) | (conv => whnf)))
                | (refine .inr ⟨(by decide : (2 : Int) ≠ 0), ?_⟩; (conv => whnf))
                | ((first | (refine callApi (hD) rfl rfl ?_) | (refine callApiD (hD) rfl rfl ?_) | refine Draws.of cfg_ok (by kernel_rfl) ?_ | refine ⟨(by kernel_rfl : confB _ _ _ _ _ = true), ?_⟩ | refine ⟨by (first | omega | (simp only [lens, Int.toNat_natCast, bsz, Nat.zero_mul, Nat.zero_add]; omega)), ?_⟩ | refine .inl ⟨by omega, by omega, ?_⟩ | refine .inr ⟨⟨by (first | omega | (simp only [lens, Int.toNat_natCast, bsz, Nat.zero_mul, Nat.zero_add]; omega)), by (first | omega | (simp only [lens, Int.toNat_natCast, bsz, Nat.zero_mul, Nat.zero_add]; omega))⟩, ?_⟩ | refine .inl ⟨⟨by (first | omega | (simp only [lens, Int.toNat_natCast, bsz, Nat.zero_mul, Nat.zero_add]; omega)), by (first | omega | (simp only [lens, Int.toNat_natCast, bsz, Nat.zero_mul, Nat.zero_add]; omega))⟩, ?_⟩ | refine ⟨rfl, ?_⟩ | refine ⟨congrArg (Value.int _) (by omega), ?_⟩); (conv => whnf))
                | (refine And.intro ?_ ?_; rotate_left; (conv => whnf); rotate_right))
              refine .to (k + 1, D) ⟨by dsimp only; omega, e2, hcD⟩ (by dsimp only; omega) ?_
              conv => whnf
              repeat' (first
                | exact trivial
                | ((first | refine .inl ⟨in64 (by omega) (by omega), ?_⟩ | refine .inl ⟨inU64 (by omega) (by omega), ?_⟩ | refine .inl ⟨inU8 (by omega) (by omega), ?_⟩); (conv => whnf))
                | ((refine ⟨fun hb => ?_, fun hb => ?_⟩) <;> (try simp only [decide_eq_true_eq, decide_eq_false_iff_not, Int.not_lt, Int.not_le, beq_iff_eq, beq_eq_false_iff_ne, bne_iff_ne, bne_eq_false_iff_eq, ne_eq, Decidable.not_not, Bool.not_eq_true', Bool.not_eq_false', Bool.not_eq_true, Bool.not_eq_false, Int.toNat_natCast, Bool.and_eq_true, Bool.or_eq_true, Bool.and_eq_false_iff, Bool.or_eq_false_iff, List.length_nil, List.length_cons] at hb) <;> (first | (exfalso; omega) | contradiction | exact Bool.noConfusion (show true = false from hb.symm.trans (by assumption)) | exact Bool.noConfusion (show false = true from hb.symm.trans (by assumption)) | (conv => whnf)))
                | ((first | refine Draws.of cfg_ok (by kernel_rfl) ?_ | refine ⟨(by kernel_rfl : confB _ _ _ _ _ = true), ?_⟩ | refine ⟨by (first | omega | (simp only [lens, Int.toNat_natCast, bsz, Nat.zero_mul, Nat.zero_add]; omega)), ?_⟩ | refine .inl ⟨by omega, by omega, ?_⟩ | refine .inr ⟨⟨by (first | omega | (simp only [lens, Int.toNat_natCast, bsz, Nat.zero_mul, Nat.zero_add]; omega)), by (first | omega | (simp only [lens, Int.toNat_natCast, bsz, Nat.zero_mul, Nat.zero_add]; omega))⟩, ?_⟩ | refine .inl ⟨⟨by (first | omega | (simp only [lens, Int.toNat_natCast, bsz, Nat.zero_mul, Nat.zero_add]; omega)), by (first | omega | (simp only [lens, Int.toNat_natCast, bsz, Nat.zero_mul, Nat.zero_add]; omega))⟩, ?_⟩ | refine ⟨rfl, ?_⟩ | refine ⟨congrArg (Value.int _) (by omega), ?_⟩); (conv => whnf))
                | (refine And.intro ?_ ?_; rotate_left; (conv => whnf); rotate_right))
              · show H.length + 1 = (hitsH at_ D.heaps).length; rw [hHD]; simp
              · show List.take _ (List.take H.length H ++ [elt .slot l k]) = hitsH at_ D.heaps; rw [hHD, List.take_length]; exact take_all (by simp)
            · rw [if_neg h2] at hat
              subst hat
              by_cases hab : at_ = a
              · rw [if_pos hab] at hHD
                conv => whnf
                repeat' (first
                  | exact trivial
                  | ((first | refine .inl ⟨in64 (by omega) (by omega), ?_⟩ | refine .inl ⟨inU64 (by omega) (by omega), ?_⟩ | refine .inl ⟨inU8 (by omega) (by omega), ?_⟩); (conv => whnf))
                  | ((refine ⟨fun hb => ?_, fun hb => ?_⟩) <;> (try simp only [decide_eq_true_eq, decide_eq_false_iff_not, Int.not_lt, Int.not_le, beq_iff_eq, beq_eq_false_iff_ne, bne_iff_ne, bne_eq_false_iff_eq, ne_eq, Decidable.not_not, Bool.not_eq_true', Bool.not_eq_false', Bool.not_eq_true, Bool.not_eq_false, Int.toNat_natCast, Bool.and_eq_true, Bool.or_eq_true, Bool.and_eq_false_iff, Bool.or_eq_false_iff, List.length_nil, List.length_cons] at hb) <;> (first | (exfalso; omega) | contradiction | exact Bool.noConfusion (show true = false from hb.symm.trans (by assumption)) | exact Bool.noConfusion (show false = true from hb.symm.trans (by assumption)) | (conv => whnf)))
                  | (refine .inr ⟨(by decide : (2 : Int) ≠ 0), ?_⟩; (conv => whnf))
                  | ((first | (refine callApi (hD) rfl rfl ?_) | (refine callApiD (hD) rfl rfl ?_) | refine Draws.of cfg_ok (by kernel_rfl) ?_ | refine ⟨(by kernel_rfl : confB _ _ _ _ _ = true), ?_⟩ | refine ⟨by (first | omega | (simp only [lens, Int.toNat_natCast, bsz, Nat.zero_mul, Nat.zero_add]; omega)), ?_⟩ | refine .inl ⟨by omega, by omega, ?_⟩ | refine .inr ⟨⟨by (first | omega | (simp only [lens, Int.toNat_natCast, bsz, Nat.zero_mul, Nat.zero_add]; omega)), by (first | omega | (simp only [lens, Int.toNat_natCast, bsz, Nat.zero_mul, Nat.zero_add]; omega))⟩, ?_⟩ | refine .inl ⟨⟨by (first | omega | (simp only [lens, Int.toNat_natCast, bsz, Nat.zero_mul, Nat.zero_add]; omega)), by (first | omega | (simp only [lens, Int.toNat_natCast, bsz, Nat.zero_mul, Nat.zero_add]; omega))⟩, ?_⟩ | refine ⟨rfl, ?_⟩ | refine ⟨congrArg (Value.int _) (by omega), ?_⟩); (conv => whnf))
                  | (refine And.intro ?_ ?_; rotate_left; (conv => whnf); rotate_right))
                refine .to (k + 1, D) ⟨by dsimp only; omega, e2, hcD⟩ (by dsimp only; omega) ?_
                conv => whnf
                repeat' (first
                  | exact trivial
                  | ((first | refine .inl ⟨in64 (by omega) (by omega), ?_⟩ | refine .inl ⟨inU64 (by omega) (by omega), ?_⟩ | refine .inl ⟨inU8 (by omega) (by omega), ?_⟩); (conv => whnf))
                  | ((refine ⟨fun hb => ?_, fun hb => ?_⟩) <;> (try simp only [decide_eq_true_eq, decide_eq_false_iff_not, Int.not_lt, Int.not_le, beq_iff_eq, beq_eq_false_iff_ne, bne_iff_ne, bne_eq_false_iff_eq, ne_eq, Decidable.not_not, Bool.not_eq_true', Bool.not_eq_false', Bool.not_eq_true, Bool.not_eq_false, Int.toNat_natCast, Bool.and_eq_true, Bool.or_eq_true, Bool.and_eq_false_iff, Bool.or_eq_false_iff, List.length_nil, List.length_cons] at hb) <;> (first | (exfalso; omega) | contradiction | exact Bool.noConfusion (show true = false from hb.symm.trans (by assumption)) | exact Bool.noConfusion (show false = true from hb.symm.trans (by assumption)) | (conv => whnf)))
                  | ((first | refine Draws.of cfg_ok (by kernel_rfl) ?_ | refine ⟨(by kernel_rfl : confB _ _ _ _ _ = true), ?_⟩ | refine ⟨by (first | omega | (simp only [lens, Int.toNat_natCast, bsz, Nat.zero_mul, Nat.zero_add]; omega)), ?_⟩ | refine .inl ⟨by omega, by omega, ?_⟩ | refine .inr ⟨⟨by (first | omega | (simp only [lens, Int.toNat_natCast, bsz, Nat.zero_mul, Nat.zero_add]; omega)), by (first | omega | (simp only [lens, Int.toNat_natCast, bsz, Nat.zero_mul, Nat.zero_add]; omega))⟩, ?_⟩ | refine .inl ⟨⟨by (first | omega | (simp only [lens, Int.toNat_natCast, bsz, Nat.zero_mul, Nat.zero_add]; omega)), by (first | omega | (simp only [lens, Int.toNat_natCast, bsz, Nat.zero_mul, Nat.zero_add]; omega))⟩, ?_⟩ | refine ⟨rfl, ?_⟩ | refine ⟨congrArg (Value.int _) (by omega), ?_⟩); (conv => whnf))
                  | (refine And.intro ?_ ?_; rotate_left; (conv => whnf); rotate_right))
                · show H.length + 1 = (hitsH a D.heaps).length; rw [hHD]; simp
                · show List.take _ (List.take H.length H ++ [elt .slot l k]) = hitsH a D.heaps; rw [hHD, List.take_length]; exact take_all (by simp)
              · rw [if_neg hab] at hHD
                conv => whnf
                repeat' (first
                  | exact trivial
                  | ((first | refine .inl ⟨in64 (by omega) (by omega), ?_⟩ | refine .inl ⟨inU64 (by omega) (by omega), ?_⟩ | refine .inl ⟨inU8 (by omega) (by omega), ?_⟩); (conv => whnf))
                  | ((refine ⟨fun hb => ?_, fun hb => ?_⟩) <;> (try simp only [decide_eq_true_eq, decide_eq_false_iff_not, Int.not_lt, Int.not_le, beq_iff_eq, beq_eq_false_iff_ne, bne_iff_ne, bne_eq_false_iff_eq, ne_eq, Decidable.not_not, Bool.not_eq_true', Bool.not_eq_false', Bool.not_eq_true, Bool.not_eq_false, Int.toNat_natCast, Bool.and_eq_true, Bool.or_eq_true, Bool.and_eq_false_iff, Bool.or_eq_false_iff, List.length_nil, List.length_cons] at hb) <;> (first | (exfalso; omega) | contradiction | exact Bool.noConfusion (show true = false from hb.symm.trans (by assumption)) | exact Bool.noConfusion (show false = true from hb.symm.trans (by assumption)) | (conv => whnf)))
                  | (refine .inr ⟨(by decide : (2 : Int) ≠ 0), ?_⟩; (conv => whnf))
                  | ((first | (refine callApi (hD) rfl rfl ?_) | (refine callApiD (hD) rfl rfl ?_) | refine Draws.of cfg_ok (by kernel_rfl) ?_ | refine ⟨(by kernel_rfl : confB _ _ _ _ _ = true), ?_⟩ | refine ⟨by (first | omega | (simp only [lens, Int.toNat_natCast, bsz, Nat.zero_mul, Nat.zero_add]; omega)), ?_⟩ | refine .inl ⟨by omega, by omega, ?_⟩ | refine .inr ⟨⟨by (first | omega | (simp only [lens, Int.toNat_natCast, bsz, Nat.zero_mul, Nat.zero_add]; omega)), by (first | omega | (simp only [lens, Int.toNat_natCast, bsz, Nat.zero_mul, Nat.zero_add]; omega))⟩, ?_⟩ | refine .inl ⟨⟨by (first | omega | (simp only [lens, Int.toNat_natCast, bsz, Nat.zero_mul, Nat.zero_add]; omega)), by (first | omega | (simp only [lens, Int.toNat_natCast, bsz, Nat.zero_mul, Nat.zero_add]; omega))⟩, ?_⟩ | refine ⟨rfl, ?_⟩ | refine ⟨congrArg (Value.int _) (by omega), ?_⟩); (conv => whnf))
                  | (refine And.intro ?_ ?_; rotate_left; (conv => whnf); rotate_right))
                refine .to (k + 1, D) ⟨by dsimp only; omega, e2, hcD⟩ (by dsimp only; omega) ?_
                conv => whnf
                repeat' (first
                  | exact trivial
                  | ((first | refine .inl ⟨in64 (by omega) (by omega), ?_⟩ | refine .inl ⟨inU64 (by omega) (by omega), ?_⟩ | refine .inl ⟨inU8 (by omega) (by omega), ?_⟩); (conv => whnf))
                  | ((refine ⟨fun hb => ?_, fun hb => ?_⟩) <;> (try simp only [decide_eq_true_eq, decide_eq_false_iff_not, Int.not_lt, Int.not_le, beq_iff_eq, beq_eq_false_iff_ne, bne_iff_ne, bne_eq_false_iff_eq, ne_eq, Decidable.not_not, Bool.not_eq_true', Bool.not_eq_false', Bool.not_eq_true, Bool.not_eq_false, Int.toNat_natCast, Bool.and_eq_true, Bool.or_eq_true, Bool.and_eq_false_iff, Bool.or_eq_false_iff, List.length_nil, List.length_cons] at hb) <;> (first | (exfalso; omega) | contradiction | exact Bool.noConfusion (show true = false from hb.symm.trans (by assumption)) | exact Bool.noConfusion (show false = true from hb.symm.trans (by assumption)) | (conv => whnf)))
                  | ((first | refine Draws.of cfg_ok (by kernel_rfl) ?_ | refine ⟨(by kernel_rfl : confB _ _ _ _ _ = true), ?_⟩ | refine ⟨by (first | omega | (simp only [lens, Int.toNat_natCast, bsz, Nat.zero_mul, Nat.zero_add]; omega)), ?_⟩ | refine .inl ⟨by omega, by omega, ?_⟩ | refine .inr ⟨⟨by (first | omega | (simp only [lens, Int.toNat_natCast, bsz, Nat.zero_mul, Nat.zero_add]; omega)), by (first | omega | (simp only [lens, Int.toNat_natCast, bsz, Nat.zero_mul, Nat.zero_add]; omega))⟩, ?_⟩ | refine .inl ⟨⟨by (first | omega | (simp only [lens, Int.toNat_natCast, bsz, Nat.zero_mul, Nat.zero_add]; omega)), by (first | omega | (simp only [lens, Int.toNat_natCast, bsz, Nat.zero_mul, Nat.zero_add]; omega))⟩, ?_⟩ | refine ⟨rfl, ?_⟩ | refine ⟨congrArg (Value.int _) (by omega), ?_⟩); (conv => whnf))
                  | (refine And.intro ?_ ?_; rotate_left; (conv => whnf); rotate_right))
                · show H.length = (hitsH a D.heaps).length; rw [hHD]; simp
                · show List.take _ H = hitsH a D.heaps; rw [hHD, List.append_nil]; exact List.take_length
        · have hF := lift_api d a hcd (fitC_right hRd)
          rw [liftC_right hRd] at hF
          have hRf := right_keep hRd a
          have hcf := okC_keep hcd a
          have hG := lift_api _ a hcf (fitC_right hRf)
          rw [liftC_right hRf] at hG
          have hSS := same_self _ hcf
          dsimp only at hF hG hSS hcf hRf
          rw [hits_keep, keep_keep] at hG
          obtain ⟨F, hFe⟩ : ∃ F : Chunk, F = { d with heaps := keptH a d.heaps } := ⟨_, rfl⟩
          have hFh : F.heaps = keptH a d.heaps := by rw [hFe]
          change Api _ _ _ (.tup [chunkV { d with heaps := keptH a d.heaps }, _]) at hF
          change Api _ _ [chunkV { d with heaps := keptH a d.heaps }, _] (.tup [chunkV { d with heaps := keptH a d.heaps }, _]) at hG
          change Api _ _ [chunkV { d with heaps := keptH a d.heaps }, chunkV { d with heaps := keptH a d.heaps }] _ at hSS
          rw [← hFe] at hF hG hSS
          have hss := sameSlots_api (hitsH a d.heaps) (hitsH a d.heaps) (by unfold big; omega)
          rw [sameSlots_self] at hss
          have hkl := keptH_le (cell := a) (Nat.le_refl d.heaps.length)
          rw [List.take_length] at hkl
          by_cases hab : a = b
          · subst hab
            conv => whnf
            repeat' (first
              | exact trivial
              | ((first | refine .inl ⟨in64 (by omega) (by omega), ?_⟩ | refine .inl ⟨inU64 (by omega) (by omega), ?_⟩ | refine .inl ⟨inU8 (by omega) (by omega), ?_⟩); (conv => whnf))
              | ((refine ⟨fun hb => ?_, fun hb => ?_⟩) <;> (try simp only [decide_eq_true_eq, decide_eq_false_iff_not, Int.not_lt, Int.not_le, beq_iff_eq, beq_eq_false_iff_ne, bne_iff_ne, bne_eq_false_iff_eq, ne_eq, Decidable.not_not, Bool.not_eq_true', Bool.not_eq_false', Bool.not_eq_true, Bool.not_eq_false, Int.toNat_natCast, Bool.and_eq_true, Bool.or_eq_true, Bool.and_eq_false_iff, Bool.or_eq_false_iff, List.length_nil, List.length_cons] at hb) <;> (first | (exfalso; omega) | contradiction | exact Bool.noConfusion (show true = false from hb.symm.trans (by assumption)) | exact Bool.noConfusion (show false = true from hb.symm.trans (by assumption)) | (conv => whnf)))
              | ((first | (refine callApi (hF) rfl rfl ?_) | (refine callApiD (hF) rfl rfl ?_) | (refine callApi (hG) rfl rfl ?_) | (refine callApiD (hG) rfl rfl ?_) | (refine callApi (haw) rfl rfl ?_) | (refine callApiD (haw) rfl rfl ?_) | refine Draws.of cfg_ok (by kernel_rfl) ?_ | refine ⟨(by kernel_rfl : confB _ _ _ _ _ = true), ?_⟩ | refine ⟨by (first | omega | (simp only [lens, Int.toNat_natCast, bsz, Nat.zero_mul, Nat.zero_add]; omega)), ?_⟩ | refine .inl ⟨by omega, by omega, ?_⟩ | refine .inr ⟨⟨by (first | omega | (simp only [lens, Int.toNat_natCast, bsz, Nat.zero_mul, Nat.zero_add]; omega)), by (first | omega | (simp only [lens, Int.toNat_natCast, bsz, Nat.zero_mul, Nat.zero_add]; omega))⟩, ?_⟩ | refine .inl ⟨⟨by (first | omega | (simp only [lens, Int.toNat_natCast, bsz, Nat.zero_mul, Nat.zero_add]; omega)), by (first | omega | (simp only [lens, Int.toNat_natCast, bsz, Nat.zero_mul, Nat.zero_add]; omega))⟩, ?_⟩ | refine ⟨rfl, ?_⟩ | refine ⟨congrArg (Value.int _) (by omega), ?_⟩); (conv => whnf))
              | (refine And.intro ?_ ?_; rotate_left; (conv => whnf); rotate_right))
            all_goals skip
          · have hk2 : ∀ k, k < d.heaps.length → (keptH a (d.heaps.take k)).length ≤ k := fun k hk => keptH_le (by omega)
            generalize hitsH a d.heaps = H at *
            conv => whnf
            repeat' (first
              | exact trivial
              | ((first | refine .inl ⟨in64 (by omega) (by omega), ?_⟩ | refine .inl ⟨inU64 (by omega) (by omega), ?_⟩ | refine .inl ⟨inU8 (by omega) (by omega), ?_⟩); (conv => whnf))
              | ((refine ⟨fun hb => ?_, fun hb => ?_⟩) <;> (try simp only [decide_eq_true_eq, decide_eq_false_iff_not, Int.not_lt, Int.not_le, beq_iff_eq, beq_eq_false_iff_ne, bne_iff_ne, bne_eq_false_iff_eq, ne_eq, Decidable.not_not, Bool.not_eq_true', Bool.not_eq_false', Bool.not_eq_true, Bool.not_eq_false, Int.toNat_natCast, Bool.and_eq_true, Bool.or_eq_true, Bool.and_eq_false_iff, Bool.or_eq_false_iff, List.length_nil, List.length_cons] at hb) <;> (first | (exfalso; omega) | contradiction | exact Bool.noConfusion (show true = false from hb.symm.trans (by assumption)) | exact Bool.noConfusion (show false = true from hb.symm.trans (by assumption)) | (conv => whnf)))
              | ((first | (refine callApi (hF) rfl rfl ?_) | (refine callApiD (hF) rfl rfl ?_) | (refine callApi (hG) rfl rfl ?_) | (refine callApiD (hG) rfl rfl ?_) | (refine callApi (haw) rfl rfl ?_) | (refine callApiD (haw) rfl rfl ?_) | refine Draws.of cfg_ok (by kernel_rfl) ?_ | refine ⟨(by kernel_rfl : confB _ _ _ _ _ = true), ?_⟩ | refine ⟨by (first | omega | (simp only [lens, Int.toNat_natCast, bsz, Nat.zero_mul, Nat.zero_add]; omega)), ?_⟩ | refine .inl ⟨by omega, by omega, ?_⟩ | refine .inr ⟨⟨by (first | omega | (simp only [lens, Int.toNat_natCast, bsz, Nat.zero_mul, Nat.zero_add]; omega)), by (first | omega | (simp only [lens, Int.toNat_natCast, bsz, Nat.zero_mul, Nat.zero_add]; omega))⟩, ?_⟩ | refine .inl ⟨⟨by (first | omega | (simp only [lens, Int.toNat_natCast, bsz, Nat.zero_mul, Nat.zero_add]; omega)), by (first | omega | (simp only [lens, Int.toNat_natCast, bsz, Nat.zero_mul, Nat.zero_add]; omega))⟩, ?_⟩ | refine ⟨rfl, ?_⟩ | refine ⟨congrArg (Value.int _) (by omega), ?_⟩); (conv => whnf))
              | (refine And.intro ?_ ?_; rotate_left; (conv => whnf); rotate_right))
            all_goals
              refine Runs.loopS cfg_ok (σ := Nat) [7, 11, 16, 17, 18, 19, 20, 110, 111, 112] (fun j => [i64 a, .own .slot 190001 0 H.length none, .ptr 32 0, .vec .slot H, .ptr 36 0, .vec .slot [], i64 (keptH a (d.heaps.take j)).length, .vec .heap d.heaps, i64 d.heaps.length, i64 j])
                (fun _ => [(32, .box (chunkC F)), (36, .box (chunkC F)), (190001, .row .slot H)]) (fun j => j ≤ d.heaps.length) (fun j => d.heaps.length - j) 0 (by omega) ?_ ?_
              · conv => whnf
                repeat' (first
                  | exact trivial
                  | ((first | refine .inl ⟨in64 (by omega) (by omega), ?_⟩ | refine .inl ⟨inU64 (by omega) (by omega), ?_⟩ | refine .inl ⟨inU8 (by omega) (by omega), ?_⟩); (conv => whnf))
                  | ((refine ⟨fun hb => ?_, fun hb => ?_⟩) <;> (try simp only [decide_eq_true_eq, decide_eq_false_iff_not, Int.not_lt, Int.not_le, beq_iff_eq, beq_eq_false_iff_ne, bne_iff_ne, bne_eq_false_iff_eq, ne_eq, Decidable.not_not, Bool.not_eq_true', Bool.not_eq_false', Bool.not_eq_true, Bool.not_eq_false, Int.toNat_natCast, Bool.and_eq_true, Bool.or_eq_true, Bool.and_eq_false_iff, Bool.or_eq_false_iff, List.length_nil, List.length_cons] at hb) <;> (first | (exfalso; omega) | contradiction | exact Bool.noConfusion (show true = false from hb.symm.trans (by assumption)) | exact Bool.noConfusion (show false = true from hb.symm.trans (by assumption)) | (conv => whnf)))
                  | ((first | refine Draws.of cfg_ok (by kernel_rfl) ?_ | refine ⟨(by kernel_rfl : confB _ _ _ _ _ = true), ?_⟩ | refine ⟨by (first | omega | (simp only [lens, Int.toNat_natCast, bsz, Nat.zero_mul, Nat.zero_add]; omega)), ?_⟩ | refine .inl ⟨by omega, by omega, ?_⟩ | refine .inr ⟨⟨by (first | omega | (simp only [lens, Int.toNat_natCast, bsz, Nat.zero_mul, Nat.zero_add]; omega)), by (first | omega | (simp only [lens, Int.toNat_natCast, bsz, Nat.zero_mul, Nat.zero_add]; omega))⟩, ?_⟩ | refine .inl ⟨⟨by (first | omega | (simp only [lens, Int.toNat_natCast, bsz, Nat.zero_mul, Nat.zero_add]; omega)), by (first | omega | (simp only [lens, Int.toNat_natCast, bsz, Nat.zero_mul, Nat.zero_add]; omega))⟩, ?_⟩ | refine ⟨rfl, ?_⟩ | refine ⟨congrArg (Value.int _) (by omega), ?_⟩); (conv => whnf))
                  | (refine And.intro ?_ ?_; rotate_left; (conv => whnf); rotate_right))
                all_goals first | rfl | exact List.take_length | skip
              · intro j hj
                by_cases hjl : j < d.heaps.length
                · have hE : elt .heap d.heaps (j : Int).toNat = elt .heap d.heaps j := rfl
                  have hKn := keptH_next (cell := a) hjl
                  have hKl := hk2 j hjl
                  by_cases hca : (elt .heap d.heaps j).cell = a
                  · rw [if_pos hca, List.append_nil] at hKn
                    rw [← hE] at hca
                    conv => whnf
                    repeat' (first
                      | exact trivial
                      | ((first | refine .inl ⟨in64 (by omega) (by omega), ?_⟩ | refine .inl ⟨inU64 (by omega) (by omega), ?_⟩ | refine .inl ⟨inU8 (by omega) (by omega), ?_⟩); (conv => whnf))
                      | ((refine ⟨fun hb => ?_, fun hb => ?_⟩) <;> (try simp only [decide_eq_true_eq, decide_eq_false_iff_not, Int.not_lt, Int.not_le, beq_iff_eq, beq_eq_false_iff_ne, bne_iff_ne, bne_eq_false_iff_eq, ne_eq, Decidable.not_not, Bool.not_eq_true', Bool.not_eq_false', Bool.not_eq_true, Bool.not_eq_false, Int.toNat_natCast, Bool.and_eq_true, Bool.or_eq_true, Bool.and_eq_false_iff, Bool.or_eq_false_iff, List.length_nil, List.length_cons] at hb) <;> (first | (exfalso; omega) | contradiction | exact Bool.noConfusion (show true = false from hb.symm.trans (by assumption)) | exact Bool.noConfusion (show false = true from hb.symm.trans (by assumption)) | (conv => whnf)))
                      | ((first | refine Draws.of cfg_ok (by kernel_rfl) ?_ | refine ⟨(by kernel_rfl : confB _ _ _ _ _ = true), ?_⟩ | refine ⟨by (first | omega | (simp only [lens, Int.toNat_natCast, bsz, Nat.zero_mul, Nat.zero_add]; omega)), ?_⟩ | refine .inl ⟨by omega, by omega, ?_⟩ | refine .inr ⟨⟨by (first | omega | (simp only [lens, Int.toNat_natCast, bsz, Nat.zero_mul, Nat.zero_add]; omega)), by (first | omega | (simp only [lens, Int.toNat_natCast, bsz, Nat.zero_mul, Nat.zero_add]; omega))⟩, ?_⟩ | refine .inl ⟨⟨by (first | omega | (simp only [lens, Int.toNat_natCast, bsz, Nat.zero_mul, Nat.zero_add]; omega)), by (first | omega | (simp only [lens, Int.toNat_natCast, bsz, Nat.zero_mul, Nat.zero_add]; omega))⟩, ?_⟩ | refine ⟨rfl, ?_⟩ | refine ⟨congrArg (Value.int _) (by omega), ?_⟩); (conv => whnf))
                      | (refine And.intro ?_ ?_; rotate_left; (conv => whnf); rotate_right))
                    refine .to (j + 1) hjl (by omega) ?_
                    conv => whnf
                    repeat' (first
                      | exact trivial
                      | ((first | refine .inl ⟨in64 (by omega) (by omega), ?_⟩ | refine .inl ⟨inU64 (by omega) (by omega), ?_⟩ | refine .inl ⟨inU8 (by omega) (by omega), ?_⟩); (conv => whnf))
                      | ((refine ⟨fun hb => ?_, fun hb => ?_⟩) <;> (try simp only [decide_eq_true_eq, decide_eq_false_iff_not, Int.not_lt, Int.not_le, beq_iff_eq, beq_eq_false_iff_ne, bne_iff_ne, bne_eq_false_iff_eq, ne_eq, Decidable.not_not, Bool.not_eq_true', Bool.not_eq_false', Bool.not_eq_true, Bool.not_eq_false, Int.toNat_natCast, Bool.and_eq_true, Bool.or_eq_true, Bool.and_eq_false_iff, Bool.or_eq_false_iff, List.length_nil, List.length_cons] at hb) <;> (first | (exfalso; omega) | contradiction | exact Bool.noConfusion (show true = false from hb.symm.trans (by assumption)) | exact Bool.noConfusion (show false = true from hb.symm.trans (by assumption)) | (conv => whnf)))
                      | ((first | refine Draws.of cfg_ok (by kernel_rfl) ?_ | refine ⟨(by kernel_rfl : confB _ _ _ _ _ = true), ?_⟩ | refine ⟨by (first | omega | (simp only [lens, Int.toNat_natCast, bsz, Nat.zero_mul, Nat.zero_add]; omega)), ?_⟩ | refine .inl ⟨by omega, by omega, ?_⟩ | refine .inr ⟨⟨by (first | omega | (simp only [lens, Int.toNat_natCast, bsz, Nat.zero_mul, Nat.zero_add]; omega)), by (first | omega | (simp only [lens, Int.toNat_natCast, bsz, Nat.zero_mul, Nat.zero_add]; omega))⟩, ?_⟩ | refine .inl ⟨⟨by (first | omega | (simp only [lens, Int.toNat_natCast, bsz, Nat.zero_mul, Nat.zero_add]; omega)), by (first | omega | (simp only [lens, Int.toNat_natCast, bsz, Nat.zero_mul, Nat.zero_add]; omega))⟩, ?_⟩ | refine ⟨rfl, ?_⟩ | refine ⟨congrArg (Value.int _) (by omega), ?_⟩); (conv => whnf))
                      | (refine And.intro ?_ ?_; rotate_left; (conv => whnf); rotate_right))
                    all_goals first | (rw [hKn]; done) | exact List.take_length | skip
                  · rw [if_neg hca] at hKn
                    obtain ⟨s1, s2⟩ := kept_split hjl hca
                    rw [← hFh] at s1 s2
                    rw [← hE] at hca
                    conv => whnf
                    repeat' (first
                      | exact trivial
                      | ((first | refine .inl ⟨in64 (by omega) (by omega), ?_⟩ | refine .inl ⟨inU64 (by omega) (by omega), ?_⟩ | refine .inl ⟨inU8 (by omega) (by omega), ?_⟩); (conv => whnf))
                      | ((refine ⟨fun hb => ?_, fun hb => ?_⟩) <;> (try simp only [decide_eq_true_eq, decide_eq_false_iff_not, Int.not_lt, Int.not_le, beq_iff_eq, beq_eq_false_iff_ne, bne_iff_ne, bne_eq_false_iff_eq, ne_eq, Decidable.not_not, Bool.not_eq_true', Bool.not_eq_false', Bool.not_eq_true, Bool.not_eq_false, Int.toNat_natCast, Bool.and_eq_true, Bool.or_eq_true, Bool.and_eq_false_iff, Bool.or_eq_false_iff, List.length_nil, List.length_cons] at hb) <;> (first | (exfalso; omega) | contradiction | exact Bool.noConfusion (show true = false from hb.symm.trans (by assumption)) | exact Bool.noConfusion (show false = true from hb.symm.trans (by assumption)) | (conv => whnf)))
                      | ((first | refine Draws.of cfg_ok (by kernel_rfl) ?_ | refine ⟨(by kernel_rfl : confB _ _ _ _ _ = true), ?_⟩ | refine ⟨by (first | omega | (simp only [lens, Int.toNat_natCast, bsz, Nat.zero_mul, Nat.zero_add]; omega)), ?_⟩ | refine .inl ⟨by omega, by omega, ?_⟩ | refine .inr ⟨⟨by (first | omega | (simp only [lens, Int.toNat_natCast, bsz, Nat.zero_mul, Nat.zero_add]; omega)), by (first | omega | (simp only [lens, Int.toNat_natCast, bsz, Nat.zero_mul, Nat.zero_add]; omega))⟩, ?_⟩ | refine .inl ⟨⟨by (first | omega | (simp only [lens, Int.toNat_natCast, bsz, Nat.zero_mul, Nat.zero_add]; omega)), by (first | omega | (simp only [lens, Int.toNat_natCast, bsz, Nat.zero_mul, Nat.zero_add]; omega))⟩, ?_⟩ | refine ⟨rfl, ?_⟩ | refine ⟨congrArg (Value.int _) (by omega), ?_⟩); (conv => whnf))
                      | (refine And.intro ?_ ?_; rotate_left; (conv => whnf); rotate_right))
                    · exfalso
                      (try simp only [Int.toNat_natCast] at hb)
                      rw [s2] at hb
                      simp at hb
                    · refine .to (j + 1) hjl (by omega) ?_
                      conv => whnf
                      repeat' (first
                        | exact trivial
                        | ((first | refine .inl ⟨in64 (by omega) (by omega), ?_⟩ | refine .inl ⟨inU64 (by omega) (by omega), ?_⟩ | refine .inl ⟨inU8 (by omega) (by omega), ?_⟩); (conv => whnf))
                        | ((refine ⟨fun hb => ?_, fun hb => ?_⟩) <;> (try simp only [decide_eq_true_eq, decide_eq_false_iff_not, Int.not_lt, Int.not_le, beq_iff_eq, beq_eq_false_iff_ne, bne_iff_ne, bne_eq_false_iff_eq, ne_eq, Decidable.not_not, Bool.not_eq_true', Bool.not_eq_false', Bool.not_eq_true, Bool.not_eq_false, Int.toNat_natCast, Bool.and_eq_true, Bool.or_eq_true, Bool.and_eq_false_iff, Bool.or_eq_false_iff, List.length_nil, List.length_cons] at hb) <;> (first | (exfalso; omega) | contradiction | exact Bool.noConfusion (show true = false from hb.symm.trans (by assumption)) | exact Bool.noConfusion (show false = true from hb.symm.trans (by assumption)) | (conv => whnf)))
                        | ((first | refine Draws.of cfg_ok (by kernel_rfl) ?_ | refine ⟨(by kernel_rfl : confB _ _ _ _ _ = true), ?_⟩ | refine ⟨by (first | omega | (simp only [lens, Int.toNat_natCast, bsz, Nat.zero_mul, Nat.zero_add]; omega)), ?_⟩ | refine .inl ⟨by omega, by omega, ?_⟩ | refine .inr ⟨⟨by (first | omega | (simp only [lens, Int.toNat_natCast, bsz, Nat.zero_mul, Nat.zero_add]; omega)), by (first | omega | (simp only [lens, Int.toNat_natCast, bsz, Nat.zero_mul, Nat.zero_add]; omega))⟩, ?_⟩ | refine .inl ⟨⟨by (first | omega | (simp only [lens, Int.toNat_natCast, bsz, Nat.zero_mul, Nat.zero_add]; omega)), by (first | omega | (simp only [lens, Int.toNat_natCast, bsz, Nat.zero_mul, Nat.zero_add]; omega))⟩, ?_⟩ | refine ⟨rfl, ?_⟩ | refine ⟨congrArg (Value.int _) (by omega), ?_⟩); (conv => whnf))
                        | (refine And.intro ?_ ?_; rotate_left; (conv => whnf); rotate_right))
                      all_goals first | (refine congrArg (Value.int .i64) ?_; rw [hKn, List.length_append]; rfl) | exact List.take_length | skip
                · obtain rfl : j = d.heaps.length := by omega
                  rw [List.take_length, ← hFh]
                  conv => whnf
                  repeat' (first
                    | exact trivial
                    | ((first | refine .inl ⟨in64 (by omega) (by omega), ?_⟩ | refine .inl ⟨inU64 (by omega) (by omega), ?_⟩ | refine .inl ⟨inU8 (by omega) (by omega), ?_⟩); (conv => whnf))
                    | ((refine ⟨fun hb => ?_, fun hb => ?_⟩) <;> (try simp only [decide_eq_true_eq, decide_eq_false_iff_not, Int.not_lt, Int.not_le, beq_iff_eq, beq_eq_false_iff_ne, bne_iff_ne, bne_eq_false_iff_eq, ne_eq, Decidable.not_not, Bool.not_eq_true', Bool.not_eq_false', Bool.not_eq_true, Bool.not_eq_false, Int.toNat_natCast, Bool.and_eq_true, Bool.or_eq_true, Bool.and_eq_false_iff, Bool.or_eq_false_iff, List.length_nil, List.length_cons] at hb) <;> (first | (exfalso; omega) | contradiction | exact Bool.noConfusion (show true = false from hb.symm.trans (by assumption)) | exact Bool.noConfusion (show false = true from hb.symm.trans (by assumption)) | (conv => whnf)))
                    | ((first | (refine callEv (lend2 hss rfl rfl) [(1, 190001)] rfl ?_ ?_ ?_) | (refine callEvD (lend2 hss rfl rfl) [(1, 190001)] rfl ?_ ?_ ?_)); rotate_left; rotate_left; (conv => whnf); rotate_left; (repeat' (first | exact trivial | (refine ⟨rfl, ?_⟩))); kernel_rfl)
                    | ((first | (refine callApi (hSS) rfl rfl ?_) | (refine callApiD (hSS) rfl rfl ?_) | (refine callApi (haw) rfl rfl ?_) | (refine callApiD (haw) rfl rfl ?_) | refine Draws.of cfg_ok (by kernel_rfl) ?_ | refine ⟨(by kernel_rfl : confB _ _ _ _ _ = true), ?_⟩ | refine ⟨by (first | omega | (simp only [lens, Int.toNat_natCast, bsz, Nat.zero_mul, Nat.zero_add]; omega)), ?_⟩ | refine .inl ⟨by omega, by omega, ?_⟩ | refine .inr ⟨⟨by (first | omega | (simp only [lens, Int.toNat_natCast, bsz, Nat.zero_mul, Nat.zero_add]; omega)), by (first | omega | (simp only [lens, Int.toNat_natCast, bsz, Nat.zero_mul, Nat.zero_add]; omega))⟩, ?_⟩ | refine .inl ⟨⟨by (first | omega | (simp only [lens, Int.toNat_natCast, bsz, Nat.zero_mul, Nat.zero_add]; omega)), by (first | omega | (simp only [lens, Int.toNat_natCast, bsz, Nat.zero_mul, Nat.zero_add]; omega))⟩, ?_⟩ | refine ⟨rfl, ?_⟩ | refine ⟨congrArg (Value.int _) (by omega), ?_⟩); (conv => whnf))
                    | (refine And.intro ?_ ?_; rotate_left; (conv => whnf); rotate_right))
                  all_goals skip

end Go.Proofs.Ytokdgkdpdepaeaa
