/- ChunkBoxes. -/
import Derived.Test.YtokdgkdpdepaeaaAwake
import Derived.Test.YtokdgkdpdepaeaaChest
set_option linter.unusedSimpArgs false
set_option linter.unusedVariables false
namespace Go.Proofs.Ytokdgkdpdepaeaa
open Go Go.RowKit Eng

set_option maxRecDepth 100000 in
set_option maxHeartbeats 4000000 in
theorem boxes_api (c : Chunk) (x0 x1 : Int) (l : List (El .slot)) (hc : OkC c) (hl : l.length * 16 ≤ 140737488351232) (hw : ∀ s ∈ l, okSlot s) : Api Try.prog 4 [chunkV c, .agg [i64 x0, i64 x1], .vec .slot l] (bol true) := by
  have hgr := great_api c hc
  have hrt := cright_api c hc
  have haw := awake_api
  cases hG : greatB c with
  | true =>
    rw [hG] at hgr
    refine Api.of_fin cfg_ok Try.func4 rfl (nt := 89) rfl rfl ?_
    conv => whnf
    repeat' (first
      | exact trivial
      | ((first | refine .inl ⟨in64 (by omega) (by omega), ?_⟩ | refine .inl ⟨inU64 (by omega) (by omega), ?_⟩ | refine .inl ⟨inU8 (by omega) (by omega), ?_⟩); (conv => whnf))
      | ((refine ⟨fun hb => ?_, fun hb => ?_⟩) <;> (try simp only [decide_eq_true_eq, decide_eq_false_iff_not, Int.not_lt, Int.not_le, beq_iff_eq, beq_eq_false_iff_ne, bne_iff_ne, bne_eq_false_iff_eq, ne_eq, Decidable.not_not, Bool.not_eq_true', Bool.not_eq_false', Bool.not_eq_true, Bool.not_eq_false, Int.toNat_natCast, Bool.and_eq_true, Bool.or_eq_true, Bool.and_eq_false_iff, Bool.or_eq_false_iff, List.length_nil, List.length_cons] at hb) <;> (first | (exfalso; omega) | contradiction | (conv => whnf)))
      | ((first | (refine callApi (hgr) rfl rfl ?_) | (refine callApiD (hgr) rfl rfl ?_) | (refine callApi (haw) rfl rfl ?_) | (refine callApiD (haw) rfl rfl ?_) | refine Draws.of cfg_ok (by kernel_rfl) ?_ | refine ⟨(by kernel_rfl : confB _ _ _ _ _ = true), ?_⟩ | refine ⟨by (first | omega | (simp only [lens, Int.toNat_natCast, bsz, Nat.zero_mul, Nat.zero_add]; omega)), ?_⟩ | refine .inl ⟨by omega, by omega, ?_⟩ | refine .inr ⟨⟨by (first | omega | (simp only [lens, Int.toNat_natCast, bsz, Nat.zero_mul, Nat.zero_add]; omega)), by (first | omega | (simp only [lens, Int.toNat_natCast, bsz, Nat.zero_mul, Nat.zero_add]; omega))⟩, ?_⟩ | refine .inl ⟨⟨by (first | omega | (simp only [lens, Int.toNat_natCast, bsz, Nat.zero_mul, Nat.zero_add]; omega)), by (first | omega | (simp only [lens, Int.toNat_natCast, bsz, Nat.zero_mul, Nat.zero_add]; omega))⟩, ?_⟩ | refine ⟨rfl, ?_⟩ | refine ⟨congrArg (Value.int _) (by omega), ?_⟩); (conv => whnf))
      | (refine And.intro ?_ ?_; rotate_left; (conv => whnf); rotate_right))
  | false =>
    rw [hG] at hgr
    cases hR : rightB c with
    | false =>
      rw [hR] at hrt
      refine Api.of_fin cfg_ok Try.func4 rfl (nt := 89) rfl rfl ?_
      conv => whnf
      repeat' (first
        | exact trivial
        | ((first | refine .inl ⟨in64 (by omega) (by omega), ?_⟩ | refine .inl ⟨inU64 (by omega) (by omega), ?_⟩ | refine .inl ⟨inU8 (by omega) (by omega), ?_⟩); (conv => whnf))
        | ((refine ⟨fun hb => ?_, fun hb => ?_⟩) <;> (try simp only [decide_eq_true_eq, decide_eq_false_iff_not, Int.not_lt, Int.not_le, beq_iff_eq, beq_eq_false_iff_ne, bne_iff_ne, bne_eq_false_iff_eq, ne_eq, Decidable.not_not, Bool.not_eq_true', Bool.not_eq_false', Bool.not_eq_true, Bool.not_eq_false, Int.toNat_natCast, Bool.and_eq_true, Bool.or_eq_true, Bool.and_eq_false_iff, Bool.or_eq_false_iff, List.length_nil, List.length_cons] at hb) <;> (first | (exfalso; omega) | contradiction | (conv => whnf)))
        | ((first | (refine callApi (hgr) rfl rfl ?_) | (refine callApiD (hgr) rfl rfl ?_) | (refine callApi (hrt) rfl rfl ?_) | (refine callApiD (hrt) rfl rfl ?_) | (refine callApi (haw) rfl rfl ?_) | (refine callApiD (haw) rfl rfl ?_) | refine Draws.of cfg_ok (by kernel_rfl) ?_ | refine ⟨(by kernel_rfl : confB _ _ _ _ _ = true), ?_⟩ | refine ⟨by (first | omega | (simp only [lens, Int.toNat_natCast, bsz, Nat.zero_mul, Nat.zero_add]; omega)), ?_⟩ | refine .inl ⟨by omega, by omega, ?_⟩ | refine .inr ⟨⟨by (first | omega | (simp only [lens, Int.toNat_natCast, bsz, Nat.zero_mul, Nat.zero_add]; omega)), by (first | omega | (simp only [lens, Int.toNat_natCast, bsz, Nat.zero_mul, Nat.zero_add]; omega))⟩, ?_⟩ | refine .inl ⟨⟨by (first | omega | (simp only [lens, Int.toNat_natCast, bsz, Nat.zero_mul, Nat.zero_add]; omega)), by (first | omega | (simp only [lens, Int.toNat_natCast, bsz, Nat.zero_mul, Nat.zero_add]; omega))⟩, ?_⟩ | refine ⟨rfl, ?_⟩ | refine ⟨congrArg (Value.int _) (by omega), ?_⟩); (conv => whnf))
        | (refine And.intro ?_ ?_; rotate_left; (conv => whnf); rotate_right))
    | true =>
      rw [hR] at hrt
      have hce := cells_api x0 x1
      have ha0 : 0 ≤ x0 % 64 := by omega
      have ha1 : x0 % 64 < 64 := by omega
      have hb0 : 0 ≤ x1 % 64 := by omega
      have hb1 : x1 % 64 < 64 := by omega
      generalize x0 % 64 = a at *
      generalize x1 % 64 = b at *
      by_cases h300 : 300 < l.length
      · 
        refine Api.of_fin cfg_ok Try.func4 rfl (nt := 89) rfl rfl ?_
        conv => whnf
        repeat' (first
          | exact trivial
          | ((first | refine .inl ⟨in64 (by omega) (by omega), ?_⟩ | refine .inl ⟨inU64 (by omega) (by omega), ?_⟩ | refine .inl ⟨inU8 (by omega) (by omega), ?_⟩); (conv => whnf))
          | ((refine ⟨fun hb => ?_, fun hb => ?_⟩) <;> (try simp only [decide_eq_true_eq, decide_eq_false_iff_not, Int.not_lt, Int.not_le, beq_iff_eq, beq_eq_false_iff_ne, bne_iff_ne, bne_eq_false_iff_eq, ne_eq, Decidable.not_not, Bool.not_eq_true', Bool.not_eq_false', Bool.not_eq_true, Bool.not_eq_false, Int.toNat_natCast, Bool.and_eq_true, Bool.or_eq_true, Bool.and_eq_false_iff, Bool.or_eq_false_iff, List.length_nil, List.length_cons] at hb) <;> (first | (exfalso; omega) | contradiction | (conv => whnf)))
          | ((first | (refine callApi (hgr) rfl rfl ?_) | (refine callApiD (hgr) rfl rfl ?_) | (refine callApi (hrt) rfl rfl ?_) | (refine callApiD (hrt) rfl rfl ?_) | (refine callApi (haw) rfl rfl ?_) | (refine callApiD (haw) rfl rfl ?_) | refine Draws.of cfg_ok (by kernel_rfl) ?_ | refine ⟨(by kernel_rfl : confB _ _ _ _ _ = true), ?_⟩ | refine ⟨by (first | omega | (simp only [lens, Int.toNat_natCast, bsz, Nat.zero_mul, Nat.zero_add]; omega)), ?_⟩ | refine .inl ⟨by omega, by omega, ?_⟩ | refine .inr ⟨⟨by (first | omega | (simp only [lens, Int.toNat_natCast, bsz, Nat.zero_mul, Nat.zero_add]; omega)), by (first | omega | (simp only [lens, Int.toNat_natCast, bsz, Nat.zero_mul, Nat.zero_add]; omega))⟩, ?_⟩ | refine .inl ⟨⟨by (first | omega | (simp only [lens, Int.toNat_natCast, bsz, Nat.zero_mul, Nat.zero_add]; omega)), by (first | omega | (simp only [lens, Int.toNat_natCast, bsz, Nat.zero_mul, Nat.zero_add]; omega))⟩, ?_⟩ | refine ⟨rfl, ?_⟩ | refine ⟨congrArg (Value.int _) (by omega), ?_⟩); (conv => whnf))
          | (refine And.intro ?_ ?_; rotate_left; (conv => whnf); rotate_right))
      · have hlen := right_len hR
        have hu := (right_fits hR).up
        have hX := box_api c b hc (fitC_right hR)
        rw [boxC_get hR] at hX
        have hbr := bagRight_api l 6 (by unfold big; omega) hw
        have hF := fill_api c a l hc (fitC_right hR) hl hw
        rw [fillC_right hR] at hF
        have hca := chest_iff hR ha0 ha1
        have hcb := chest_iff hR hb0 hb1
        have hsw := sameSlots_api ((getB c.boxes b).getD []) ((getB c.boxes b).getD []) (by
          cases hg : getB c.boxes b with
          | none => simp [big]
          | some s => obtain ⟨x, hx, _, rfl⟩ := getB_mem hg; simp only [Option.getD_some]; exact (hc.boxes x hx).2)
        rw [sameSlots_self] at hsw
        have hsl := sameSlots_api l l (by unfold big; omega)
        rw [sameSlots_self] at hsl
        cases hga : (getB c.boxes a).isSome with
        | false =>
          rw [hga, if_pos rfl] at hF
          dsimp only at hF
          have hna : ¬ (elt .u8 c.cells a.toNat : Int) = (9 : Int) := fun e => by rw [hca.1 e] at hga; cases hga
          cases hgb : (getB c.boxes b).isSome with
          | false =>
            have hnb : ¬ (elt .u8 c.cells b.toNat : Int) = (9 : Int) := fun e => by rw [hcb.1 e] at hgb; cases hgb
            rw [hgb] at hX
            dsimp only at hX
            generalize (getB c.boxes b).getD [] = W at *
            refine Api.of_fin cfg_ok Try.func4 rfl (nt := 89) rfl rfl ?_
            conv => whnf
            repeat' (first
              | (exfalso; revert hb; simp [hnb, hna]; done)
              | exact trivial
              | ((first | refine .inl ⟨in64 (by omega) (by omega), ?_⟩ | refine .inl ⟨inU64 (by omega) (by omega), ?_⟩ | refine .inl ⟨inU8 (by omega) (by omega), ?_⟩); (conv => whnf))
              | ((refine ⟨fun hb => ?_, fun hb => ?_⟩) <;> (try simp only [decide_eq_true_eq, decide_eq_false_iff_not, Int.not_lt, Int.not_le, beq_iff_eq, beq_eq_false_iff_ne, bne_iff_ne, bne_eq_false_iff_eq, ne_eq, Decidable.not_not, Bool.not_eq_true', Bool.not_eq_false', Bool.not_eq_true, Bool.not_eq_false, Int.toNat_natCast, Bool.and_eq_true, Bool.or_eq_true, Bool.and_eq_false_iff, Bool.or_eq_false_iff, List.length_nil, List.length_cons] at hb) <;> (first | (exfalso; omega) | contradiction | (conv => whnf)))
              | ((first | (refine callApi (hgr) rfl rfl ?_) | (refine callApiD (hgr) rfl rfl ?_) | (refine callApi (hrt) rfl rfl ?_) | (refine callApiD (hrt) rfl rfl ?_) | (refine callApi (haw) rfl rfl ?_) | (refine callApiD (haw) rfl rfl ?_) | (refine callApi (hce) rfl rfl ?_) | (refine callApiD (hce) rfl rfl ?_) | (refine callApi (hX) rfl rfl ?_) | (refine callApiD (hX) rfl rfl ?_) | (refine callApi (hF) rfl rfl ?_) | (refine callApiD (hF) rfl rfl ?_) | (refine callApi (hbr) rfl rfl ?_) | (refine callApiD (hbr) rfl rfl ?_) | (refine callApi (hsw) rfl rfl ?_) | (refine callApiD (hsw) rfl rfl ?_) | refine Draws.of cfg_ok (by kernel_rfl) ?_ | refine ⟨(by kernel_rfl : confB _ _ _ _ _ = true), ?_⟩ | refine ⟨by (first | omega | (simp only [lens, Int.toNat_natCast, bsz, Nat.zero_mul, Nat.zero_add]; omega)), ?_⟩ | refine .inl ⟨by omega, by omega, ?_⟩ | refine .inr ⟨⟨by (first | omega | (simp only [lens, Int.toNat_natCast, bsz, Nat.zero_mul, Nat.zero_add]; omega)), by (first | omega | (simp only [lens, Int.toNat_natCast, bsz, Nat.zero_mul, Nat.zero_add]; omega))⟩, ?_⟩ | refine .inl ⟨⟨by (first | omega | (simp only [lens, Int.toNat_natCast, bsz, Nat.zero_mul, Nat.zero_add]; omega)), by (first | omega | (simp only [lens, Int.toNat_natCast, bsz, Nat.zero_mul, Nat.zero_add]; omega))⟩, ?_⟩ | refine ⟨rfl, ?_⟩ | refine ⟨congrArg (Value.int _) (by omega), ?_⟩); (conv => whnf))
              | (refine And.intro ?_ ?_; rotate_left; (conv => whnf); rotate_right))
          | true =>
            have hnb : (elt .u8 c.cells b.toNat : Int) = (9 : Int) := hcb.2 hgb
            rw [hgb] at hX
            dsimp only at hX
            generalize (getB c.boxes b).getD [] = W at *
            refine Api.of_fin cfg_ok Try.func4 rfl (nt := 89) rfl rfl ?_
            conv => whnf
            repeat' (first
              | (exfalso; revert hb; simp [hnb, hna]; done)
              | exact trivial
              | ((first | refine .inl ⟨in64 (by omega) (by omega), ?_⟩ | refine .inl ⟨inU64 (by omega) (by omega), ?_⟩ | refine .inl ⟨inU8 (by omega) (by omega), ?_⟩); (conv => whnf))
              | ((refine ⟨fun hb => ?_, fun hb => ?_⟩) <;> (try simp only [decide_eq_true_eq, decide_eq_false_iff_not, Int.not_lt, Int.not_le, beq_iff_eq, beq_eq_false_iff_ne, bne_iff_ne, bne_eq_false_iff_eq, ne_eq, Decidable.not_not, Bool.not_eq_true', Bool.not_eq_false', Bool.not_eq_true, Bool.not_eq_false, Int.toNat_natCast, Bool.and_eq_true, Bool.or_eq_true, Bool.and_eq_false_iff, Bool.or_eq_false_iff, List.length_nil, List.length_cons] at hb) <;> (first | (exfalso; omega) | contradiction | (conv => whnf)))
              | ((first | (refine callApi (hgr) rfl rfl ?_) | (refine callApiD (hgr) rfl rfl ?_) | (refine callApi (hrt) rfl rfl ?_) | (refine callApiD (hrt) rfl rfl ?_) | (refine callApi (haw) rfl rfl ?_) | (refine callApiD (haw) rfl rfl ?_) | (refine callApi (hce) rfl rfl ?_) | (refine callApiD (hce) rfl rfl ?_) | (refine callApi (hX) rfl rfl ?_) | (refine callApiD (hX) rfl rfl ?_) | (refine callApi (hF) rfl rfl ?_) | (refine callApiD (hF) rfl rfl ?_) | (refine callApi (hbr) rfl rfl ?_) | (refine callApiD (hbr) rfl rfl ?_) | (refine callApi (hsw) rfl rfl ?_) | (refine callApiD (hsw) rfl rfl ?_) | refine Draws.of cfg_ok (by kernel_rfl) ?_ | refine ⟨(by kernel_rfl : confB _ _ _ _ _ = true), ?_⟩ | refine ⟨by (first | omega | (simp only [lens, Int.toNat_natCast, bsz, Nat.zero_mul, Nat.zero_add]; omega)), ?_⟩ | refine .inl ⟨by omega, by omega, ?_⟩ | refine .inr ⟨⟨by (first | omega | (simp only [lens, Int.toNat_natCast, bsz, Nat.zero_mul, Nat.zero_add]; omega)), by (first | omega | (simp only [lens, Int.toNat_natCast, bsz, Nat.zero_mul, Nat.zero_add]; omega))⟩, ?_⟩ | refine .inl ⟨⟨by (first | omega | (simp only [lens, Int.toNat_natCast, bsz, Nat.zero_mul, Nat.zero_add]; omega)), by (first | omega | (simp only [lens, Int.toNat_natCast, bsz, Nat.zero_mul, Nat.zero_add]; omega))⟩, ?_⟩ | refine ⟨rfl, ?_⟩ | refine ⟨congrArg (Value.int _) (by omega), ?_⟩); (conv => whnf))
              | (refine And.intro ?_ ?_; rotate_left; (conv => whnf); rotate_right))
        | true =>
          have hna : (elt .u8 c.cells a.toNat : Int) = (9 : Int) := hca.2 hga
          rw [hga, if_neg (by simp)] at hF
          change Api _ _ _ (bol (bagR l)) at hbr
          cases hb6 : bagR l with
          | false =>
            rw [hb6, if_pos rfl] at hF
            rw [hb6] at hbr
            dsimp only at hF
            cases hgb : (getB c.boxes b).isSome with
            | false =>
              have hnb : ¬ (elt .u8 c.cells b.toNat : Int) = (9 : Int) := fun e => by rw [hcb.1 e] at hgb; cases hgb
              rw [hgb] at hX
              dsimp only at hX
              generalize (getB c.boxes b).getD [] = W at *
              refine Api.of_fin cfg_ok Try.func4 rfl (nt := 89) rfl rfl ?_
              conv => whnf
              repeat' (first
                | (exfalso; revert hb; simp [hnb, hna]; done)
                | exact trivial
                | ((first | refine .inl ⟨in64 (by omega) (by omega), ?_⟩ | refine .inl ⟨inU64 (by omega) (by omega), ?_⟩ | refine .inl ⟨inU8 (by omega) (by omega), ?_⟩); (conv => whnf))
                | ((refine ⟨fun hb => ?_, fun hb => ?_⟩) <;> (try simp only [decide_eq_true_eq, decide_eq_false_iff_not, Int.not_lt, Int.not_le, beq_iff_eq, beq_eq_false_iff_ne, bne_iff_ne, bne_eq_false_iff_eq, ne_eq, Decidable.not_not, Bool.not_eq_true', Bool.not_eq_false', Bool.not_eq_true, Bool.not_eq_false, Int.toNat_natCast, Bool.and_eq_true, Bool.or_eq_true, Bool.and_eq_false_iff, Bool.or_eq_false_iff, List.length_nil, List.length_cons] at hb) <;> (first | (exfalso; omega) | contradiction | (conv => whnf)))
                | ((first | (refine callApi (hgr) rfl rfl ?_) | (refine callApiD (hgr) rfl rfl ?_) | (refine callApi (hrt) rfl rfl ?_) | (refine callApiD (hrt) rfl rfl ?_) | (refine callApi (haw) rfl rfl ?_) | (refine callApiD (haw) rfl rfl ?_) | (refine callApi (hce) rfl rfl ?_) | (refine callApiD (hce) rfl rfl ?_) | (refine callApi (hX) rfl rfl ?_) | (refine callApiD (hX) rfl rfl ?_) | (refine callApi (hF) rfl rfl ?_) | (refine callApiD (hF) rfl rfl ?_) | (refine callApi (hbr) rfl rfl ?_) | (refine callApiD (hbr) rfl rfl ?_) | (refine callApi (hsw) rfl rfl ?_) | (refine callApiD (hsw) rfl rfl ?_) | refine Draws.of cfg_ok (by kernel_rfl) ?_ | refine ⟨(by kernel_rfl : confB _ _ _ _ _ = true), ?_⟩ | refine ⟨by (first | omega | (simp only [lens, Int.toNat_natCast, bsz, Nat.zero_mul, Nat.zero_add]; omega)), ?_⟩ | refine .inl ⟨by omega, by omega, ?_⟩ | refine .inr ⟨⟨by (first | omega | (simp only [lens, Int.toNat_natCast, bsz, Nat.zero_mul, Nat.zero_add]; omega)), by (first | omega | (simp only [lens, Int.toNat_natCast, bsz, Nat.zero_mul, Nat.zero_add]; omega))⟩, ?_⟩ | refine .inl ⟨⟨by (first | omega | (simp only [lens, Int.toNat_natCast, bsz, Nat.zero_mul, Nat.zero_add]; omega)), by (first | omega | (simp only [lens, Int.toNat_natCast, bsz, Nat.zero_mul, Nat.zero_add]; omega))⟩, ?_⟩ | refine ⟨rfl, ?_⟩ | refine ⟨congrArg (Value.int _) (by omega), ?_⟩); (conv => whnf))
                | (refine And.intro ?_ ?_; rotate_left; (conv => whnf); rotate_right))
            | true =>
              have hnb : (elt .u8 c.cells b.toNat : Int) = (9 : Int) := hcb.2 hgb
              rw [hgb] at hX
              dsimp only at hX
              generalize (getB c.boxes b).getD [] = W at *
              refine Api.of_fin cfg_ok Try.func4 rfl (nt := 89) rfl rfl ?_
              conv => whnf
              repeat' (first
                | (exfalso; revert hb; simp [hnb, hna]; done)
                | exact trivial
                | ((first | refine .inl ⟨in64 (by omega) (by omega), ?_⟩ | refine .inl ⟨inU64 (by omega) (by omega), ?_⟩ | refine .inl ⟨inU8 (by omega) (by omega), ?_⟩); (conv => whnf))
                | ((refine ⟨fun hb => ?_, fun hb => ?_⟩) <;> (try simp only [decide_eq_true_eq, decide_eq_false_iff_not, Int.not_lt, Int.not_le, beq_iff_eq, beq_eq_false_iff_ne, bne_iff_ne, bne_eq_false_iff_eq, ne_eq, Decidable.not_not, Bool.not_eq_true', Bool.not_eq_false', Bool.not_eq_true, Bool.not_eq_false, Int.toNat_natCast, Bool.and_eq_true, Bool.or_eq_true, Bool.and_eq_false_iff, Bool.or_eq_false_iff, List.length_nil, List.length_cons] at hb) <;> (first | (exfalso; omega) | contradiction | (conv => whnf)))
                | ((first | (refine callApi (hgr) rfl rfl ?_) | (refine callApiD (hgr) rfl rfl ?_) | (refine callApi (hrt) rfl rfl ?_) | (refine callApiD (hrt) rfl rfl ?_) | (refine callApi (haw) rfl rfl ?_) | (refine callApiD (haw) rfl rfl ?_) | (refine callApi (hce) rfl rfl ?_) | (refine callApiD (hce) rfl rfl ?_) | (refine callApi (hX) rfl rfl ?_) | (refine callApiD (hX) rfl rfl ?_) | (refine callApi (hF) rfl rfl ?_) | (refine callApiD (hF) rfl rfl ?_) | (refine callApi (hbr) rfl rfl ?_) | (refine callApiD (hbr) rfl rfl ?_) | (refine callApi (hsw) rfl rfl ?_) | (refine callApiD (hsw) rfl rfl ?_) | refine Draws.of cfg_ok (by kernel_rfl) ?_ | refine ⟨(by kernel_rfl : confB _ _ _ _ _ = true), ?_⟩ | refine ⟨by (first | omega | (simp only [lens, Int.toNat_natCast, bsz, Nat.zero_mul, Nat.zero_add]; omega)), ?_⟩ | refine .inl ⟨by omega, by omega, ?_⟩ | refine .inr ⟨⟨by (first | omega | (simp only [lens, Int.toNat_natCast, bsz, Nat.zero_mul, Nat.zero_add]; omega)), by (first | omega | (simp only [lens, Int.toNat_natCast, bsz, Nat.zero_mul, Nat.zero_add]; omega))⟩, ?_⟩ | refine .inl ⟨⟨by (first | omega | (simp only [lens, Int.toNat_natCast, bsz, Nat.zero_mul, Nat.zero_add]; omega)), by (first | omega | (simp only [lens, Int.toNat_natCast, bsz, Nat.zero_mul, Nat.zero_add]; omega))⟩, ?_⟩ | refine ⟨rfl, ?_⟩ | refine ⟨congrArg (Value.int _) (by omega), ?_⟩); (conv => whnf))
                | (refine And.intro ?_ ?_; rotate_left; (conv => whnf); rotate_right))
          | true =>
            rw [hb6, if_neg (by simp)] at hF
            rw [hb6] at hbr
            dsimp only at hF
            have hth : thereB c.boxes a = true := by rw [there_iff hu]; exact hga
            have hRu := right_upd hR hth hb6
            have hY := box_api (updC c a l) b (okC_upd hc hw (by unfold big; omega)) (fitC_right hRu)
            rw [boxC_get hRu, show (updC c a l).boxes = updB c.boxes a l from rfl, getB_updB hu hth] at hY
            by_cases hab : a = b
            · subst hab
              rw [if_pos rfl] at hY
              rw [hga] at hX
              dsimp only [Option.getD_some, Option.isSome_some] at hX hY
              generalize (getB c.boxes a).getD [] = W at *
              generalize updC c a l = U at *
              refine Api.of_fin cfg_ok Try.func4 rfl (nt := 89) rfl rfl ?_
              conv => whnf
              repeat' (first
                | (exfalso; revert hb; simp [hna]; done)
                | exact trivial
                | ((first | refine .inl ⟨in64 (by omega) (by omega), ?_⟩ | refine .inl ⟨inU64 (by omega) (by omega), ?_⟩ | refine .inl ⟨inU8 (by omega) (by omega), ?_⟩); (conv => whnf))
                | ((refine ⟨fun hb => ?_, fun hb => ?_⟩) <;> (try simp only [decide_eq_true_eq, decide_eq_false_iff_not, Int.not_lt, Int.not_le, beq_iff_eq, beq_eq_false_iff_ne, bne_iff_ne, bne_eq_false_iff_eq, ne_eq, Decidable.not_not, Bool.not_eq_true', Bool.not_eq_false', Bool.not_eq_true, Bool.not_eq_false, Int.toNat_natCast, Bool.and_eq_true, Bool.or_eq_true, Bool.and_eq_false_iff, Bool.or_eq_false_iff, List.length_nil, List.length_cons] at hb) <;> (first | (exfalso; omega) | contradiction | (conv => whnf)))
                | ((first | (refine callApi (hgr) rfl rfl ?_) | (refine callApiD (hgr) rfl rfl ?_) | (refine callApi (hrt) rfl rfl ?_) | (refine callApiD (hrt) rfl rfl ?_) | (refine callApi (haw) rfl rfl ?_) | (refine callApiD (haw) rfl rfl ?_) | (refine callApi (hce) rfl rfl ?_) | (refine callApiD (hce) rfl rfl ?_) | (refine callApi (hX) rfl rfl ?_) | (refine callApiD (hX) rfl rfl ?_) | (refine callApi (hF) rfl rfl ?_) | (refine callApiD (hF) rfl rfl ?_) | (refine callApi (hbr) rfl rfl ?_) | (refine callApiD (hbr) rfl rfl ?_) | (refine callApi (hY) rfl rfl ?_) | (refine callApiD (hY) rfl rfl ?_) | (refine callApi (hsl) rfl rfl ?_) | (refine callApiD (hsl) rfl rfl ?_) | refine Draws.of cfg_ok (by kernel_rfl) ?_ | refine ⟨(by kernel_rfl : confB _ _ _ _ _ = true), ?_⟩ | refine ⟨by (first | omega | (simp only [lens, Int.toNat_natCast, bsz, Nat.zero_mul, Nat.zero_add]; omega)), ?_⟩ | refine .inl ⟨by omega, by omega, ?_⟩ | refine .inr ⟨⟨by (first | omega | (simp only [lens, Int.toNat_natCast, bsz, Nat.zero_mul, Nat.zero_add]; omega)), by (first | omega | (simp only [lens, Int.toNat_natCast, bsz, Nat.zero_mul, Nat.zero_add]; omega))⟩, ?_⟩ | refine .inl ⟨⟨by (first | omega | (simp only [lens, Int.toNat_natCast, bsz, Nat.zero_mul, Nat.zero_add]; omega)), by (first | omega | (simp only [lens, Int.toNat_natCast, bsz, Nat.zero_mul, Nat.zero_add]; omega))⟩, ?_⟩ | refine ⟨rfl, ?_⟩ | refine ⟨congrArg (Value.int _) (by omega), ?_⟩); (conv => whnf))
                | (refine And.intro ?_ ?_; rotate_left; (conv => whnf); rotate_right))
            · rw [if_neg (fun e => hab e.symm)] at hY
              cases hgb : (getB c.boxes b).isSome with
              | false =>
                have hnb : ¬ (elt .u8 c.cells b.toNat : Int) = (9 : Int) := fun e => by rw [hcb.1 e] at hgb; cases hgb
                rw [hgb] at hX hY
                dsimp only at hX hY
                generalize (getB c.boxes b).getD [] = W at *
                generalize updC c a l = U at *
                refine Api.of_fin cfg_ok Try.func4 rfl (nt := 89) rfl rfl ?_
                conv => whnf
                repeat' (first
                  | (exfalso; revert hb; simp [hnb, hna]; done)
                  | exact trivial
                  | ((first | refine .inl ⟨in64 (by omega) (by omega), ?_⟩ | refine .inl ⟨inU64 (by omega) (by omega), ?_⟩ | refine .inl ⟨inU8 (by omega) (by omega), ?_⟩); (conv => whnf))
                  | ((refine ⟨fun hb => ?_, fun hb => ?_⟩) <;> (try simp only [decide_eq_true_eq, decide_eq_false_iff_not, Int.not_lt, Int.not_le, beq_iff_eq, beq_eq_false_iff_ne, bne_iff_ne, bne_eq_false_iff_eq, ne_eq, Decidable.not_not, Bool.not_eq_true', Bool.not_eq_false', Bool.not_eq_true, Bool.not_eq_false, Int.toNat_natCast, Bool.and_eq_true, Bool.or_eq_true, Bool.and_eq_false_iff, Bool.or_eq_false_iff, List.length_nil, List.length_cons] at hb) <;> (first | (exfalso; omega) | contradiction | (conv => whnf)))
                  | ((first | (refine callApi (hgr) rfl rfl ?_) | (refine callApiD (hgr) rfl rfl ?_) | (refine callApi (hrt) rfl rfl ?_) | (refine callApiD (hrt) rfl rfl ?_) | (refine callApi (haw) rfl rfl ?_) | (refine callApiD (haw) rfl rfl ?_) | (refine callApi (hce) rfl rfl ?_) | (refine callApiD (hce) rfl rfl ?_) | (refine callApi (hX) rfl rfl ?_) | (refine callApiD (hX) rfl rfl ?_) | (refine callApi (hF) rfl rfl ?_) | (refine callApiD (hF) rfl rfl ?_) | (refine callApi (hbr) rfl rfl ?_) | (refine callApiD (hbr) rfl rfl ?_) | (refine callApi (hY) rfl rfl ?_) | (refine callApiD (hY) rfl rfl ?_) | (refine callApi (hsw) rfl rfl ?_) | (refine callApiD (hsw) rfl rfl ?_) | refine Draws.of cfg_ok (by kernel_rfl) ?_ | refine ⟨(by kernel_rfl : confB _ _ _ _ _ = true), ?_⟩ | refine ⟨by (first | omega | (simp only [lens, Int.toNat_natCast, bsz, Nat.zero_mul, Nat.zero_add]; omega)), ?_⟩ | refine .inl ⟨by omega, by omega, ?_⟩ | refine .inr ⟨⟨by (first | omega | (simp only [lens, Int.toNat_natCast, bsz, Nat.zero_mul, Nat.zero_add]; omega)), by (first | omega | (simp only [lens, Int.toNat_natCast, bsz, Nat.zero_mul, Nat.zero_add]; omega))⟩, ?_⟩ | refine .inl ⟨⟨by (first | omega | (simp only [lens, Int.toNat_natCast, bsz, Nat.zero_mul, Nat.zero_add]; omega)), by (first | omega | (simp only [lens, Int.toNat_natCast, bsz, Nat.zero_mul, Nat.zero_add]; omega))⟩, ?_⟩ | refine ⟨rfl, ?_⟩ | refine ⟨congrArg (Value.int _) (by omega), ?_⟩); (conv => whnf))
                  | (refine And.intro ?_ ?_; rotate_left; (conv => whnf); rotate_right))
              | true =>
                have hnb : (elt .u8 c.cells b.toNat : Int) = (9 : Int) := hcb.2 hgb
                rw [hgb] at hX hY
                dsimp only at hX hY
                generalize (getB c.boxes b).getD [] = W at *
                generalize updC c a l = U at *
                refine Api.of_fin cfg_ok Try.func4 rfl (nt := 89) rfl rfl ?_
                conv => whnf
                repeat' (first
                  | (exfalso; revert hb; simp [hnb, hna]; done)
                  | exact trivial
                  | ((first | refine .inl ⟨in64 (by omega) (by omega), ?_⟩ | refine .inl ⟨inU64 (by omega) (by omega), ?_⟩ | refine .inl ⟨inU8 (by omega) (by omega), ?_⟩); (conv => whnf))
                  | ((refine ⟨fun hb => ?_, fun hb => ?_⟩) <;> (try simp only [decide_eq_true_eq, decide_eq_false_iff_not, Int.not_lt, Int.not_le, beq_iff_eq, beq_eq_false_iff_ne, bne_iff_ne, bne_eq_false_iff_eq, ne_eq, Decidable.not_not, Bool.not_eq_true', Bool.not_eq_false', Bool.not_eq_true, Bool.not_eq_false, Int.toNat_natCast, Bool.and_eq_true, Bool.or_eq_true, Bool.and_eq_false_iff, Bool.or_eq_false_iff, List.length_nil, List.length_cons] at hb) <;> (first | (exfalso; omega) | contradiction | (conv => whnf)))
                  | ((first | (refine callApi (hgr) rfl rfl ?_) | (refine callApiD (hgr) rfl rfl ?_) | (refine callApi (hrt) rfl rfl ?_) | (refine callApiD (hrt) rfl rfl ?_) | (refine callApi (haw) rfl rfl ?_) | (refine callApiD (haw) rfl rfl ?_) | (refine callApi (hce) rfl rfl ?_) | (refine callApiD (hce) rfl rfl ?_) | (refine callApi (hX) rfl rfl ?_) | (refine callApiD (hX) rfl rfl ?_) | (refine callApi (hF) rfl rfl ?_) | (refine callApiD (hF) rfl rfl ?_) | (refine callApi (hbr) rfl rfl ?_) | (refine callApiD (hbr) rfl rfl ?_) | (refine callApi (hY) rfl rfl ?_) | (refine callApiD (hY) rfl rfl ?_) | (refine callApi (hsw) rfl rfl ?_) | (refine callApiD (hsw) rfl rfl ?_) | refine Draws.of cfg_ok (by kernel_rfl) ?_ | refine ⟨(by kernel_rfl : confB _ _ _ _ _ = true), ?_⟩ | refine ⟨by (first | omega | (simp only [lens, Int.toNat_natCast, bsz, Nat.zero_mul, Nat.zero_add]; omega)), ?_⟩ | refine .inl ⟨by omega, by omega, ?_⟩ | refine .inr ⟨⟨by (first | omega | (simp only [lens, Int.toNat_natCast, bsz, Nat.zero_mul, Nat.zero_add]; omega)), by (first | omega | (simp only [lens, Int.toNat_natCast, bsz, Nat.zero_mul, Nat.zero_add]; omega))⟩, ?_⟩ | refine .inl ⟨⟨by (first | omega | (simp only [lens, Int.toNat_natCast, bsz, Nat.zero_mul, Nat.zero_add]; omega)), by (first | omega | (simp only [lens, Int.toNat_natCast, bsz, Nat.zero_mul, Nat.zero_add]; omega))⟩, ?_⟩ | refine ⟨rfl, ?_⟩ | refine ⟨congrArg (Value.int _) (by omega), ?_⟩); (conv => whnf))
                  | (refine And.intro ?_ ?_; rotate_left; (conv => whnf); rotate_right))

end Go.Proofs.Ytokdgkdpdepaeaa
