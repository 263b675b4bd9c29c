/- ChunkSets. -/
import Derived.Test.YtokdgkdpdepaeaaAwake
import Derived.Test.YtokdgkdpdepaeaaChest
set_option linter.unusedSimpArgs false
set_option linter.unusedVariables false
namespace Go.Proofs.Ytokdgkdpdepaeaa
open Go Go.RowKit Eng

set_option maxRecDepth 100000 in
set_option maxHeartbeats 4000000 in
theorem sets_api (c : Chunk) (x0 x1 i0 i1 : Int) (hc : OkC c) (h00 : 0 ≤ i0) (h01 : i0 ≤ 255) (h10 : 0 ≤ i1) (h11 : i1 ≤ 255) : Api Try.prog 3 [chunkV c, .agg [i64 x0, i64 x1], .agg [.lit (.int .u8 i0), .lit (.int .u8 i1)]] (bol true) := by
  have hgr := great_api c hc
  have hrt := cright_api c hc
  have haw := awake_api
  cases hG : greatB c with
  | true =>
    rw [hG] at hgr
    refine Api.of_fin cfg_ok Try.func3 rfl (nt := 160) rfl rfl ?_
    conv => whnf
    repeat' (first
      | exact trivial
      | ((first | refine .inl ⟨in64 (by omega) (by omega), ?_⟩ | refine .inl ⟨inU64 (by omega) (by omega), ?_⟩ | refine .inl ⟨inU8 (by omega) (by omega), ?_⟩); (conv => whnf))
      | ((refine ⟨fun hb => ?_, fun hb => ?_⟩) <;> (try simp only [decide_eq_true_eq, decide_eq_false_iff_not, Int.not_lt, Int.not_le, beq_iff_eq, beq_eq_false_iff_ne, bne_iff_ne, bne_eq_false_iff_eq, ne_eq, Decidable.not_not, Bool.not_eq_true', Bool.not_eq_false', Bool.not_eq_true, Bool.not_eq_false, Int.toNat_natCast, Bool.and_eq_true, Bool.or_eq_true, Bool.and_eq_false_iff, Bool.or_eq_false_iff, List.length_nil, List.length_cons] at hb) <;> (first | (exfalso; omega) | contradiction | (conv => whnf)))
      | ((first | (refine callApi (hgr) rfl rfl ?_) | (refine callApiD (hgr) rfl rfl ?_) | (refine callApi (haw) rfl rfl ?_) | (refine callApiD (haw) rfl rfl ?_) | refine Draws.of cfg_ok (by kernel_rfl) ?_ | refine ⟨(by kernel_rfl : confB _ _ _ _ _ = true), ?_⟩ | refine ⟨by (first | omega | (simp only [lens, Int.toNat_natCast, bsz, Nat.zero_mul, Nat.zero_add]; omega)), ?_⟩ | refine .inl ⟨by omega, by omega, ?_⟩ | refine .inr ⟨⟨by (first | omega | (simp only [lens, Int.toNat_natCast, bsz, Nat.zero_mul, Nat.zero_add]; omega)), by (first | omega | (simp only [lens, Int.toNat_natCast, bsz, Nat.zero_mul, Nat.zero_add]; omega))⟩, ?_⟩ | refine .inl ⟨⟨by (first | omega | (simp only [lens, Int.toNat_natCast, bsz, Nat.zero_mul, Nat.zero_add]; omega)), by (first | omega | (simp only [lens, Int.toNat_natCast, bsz, Nat.zero_mul, Nat.zero_add]; omega))⟩, ?_⟩ | refine ⟨rfl, ?_⟩ | refine ⟨congrArg (Value.int _) (by omega), ?_⟩); (conv => whnf))
      | (refine And.intro ?_ ?_; rotate_left; (conv => whnf); rotate_right))
  | false =>
    rw [hG] at hgr
    cases hR : rightB c with
    | false =>
      rw [hR] at hrt
      refine Api.of_fin cfg_ok Try.func3 rfl (nt := 160) rfl rfl ?_
      conv => whnf
      repeat' (first
        | exact trivial
        | ((first | refine .inl ⟨in64 (by omega) (by omega), ?_⟩ | refine .inl ⟨inU64 (by omega) (by omega), ?_⟩ | refine .inl ⟨inU8 (by omega) (by omega), ?_⟩); (conv => whnf))
        | ((refine ⟨fun hb => ?_, fun hb => ?_⟩) <;> (try simp only [decide_eq_true_eq, decide_eq_false_iff_not, Int.not_lt, Int.not_le, beq_iff_eq, beq_eq_false_iff_ne, bne_iff_ne, bne_eq_false_iff_eq, ne_eq, Decidable.not_not, Bool.not_eq_true', Bool.not_eq_false', Bool.not_eq_true, Bool.not_eq_false, Int.toNat_natCast, Bool.and_eq_true, Bool.or_eq_true, Bool.and_eq_false_iff, Bool.or_eq_false_iff, List.length_nil, List.length_cons] at hb) <;> (first | (exfalso; omega) | contradiction | (conv => whnf)))
        | ((first | (refine callApi (hgr) rfl rfl ?_) | (refine callApiD (hgr) rfl rfl ?_) | (refine callApi (hrt) rfl rfl ?_) | (refine callApiD (hrt) rfl rfl ?_) | (refine callApi (haw) rfl rfl ?_) | (refine callApiD (haw) rfl rfl ?_) | refine Draws.of cfg_ok (by kernel_rfl) ?_ | refine ⟨(by kernel_rfl : confB _ _ _ _ _ = true), ?_⟩ | refine ⟨by (first | omega | (simp only [lens, Int.toNat_natCast, bsz, Nat.zero_mul, Nat.zero_add]; omega)), ?_⟩ | refine .inl ⟨by omega, by omega, ?_⟩ | refine .inr ⟨⟨by (first | omega | (simp only [lens, Int.toNat_natCast, bsz, Nat.zero_mul, Nat.zero_add]; omega)), by (first | omega | (simp only [lens, Int.toNat_natCast, bsz, Nat.zero_mul, Nat.zero_add]; omega))⟩, ?_⟩ | refine .inl ⟨⟨by (first | omega | (simp only [lens, Int.toNat_natCast, bsz, Nat.zero_mul, Nat.zero_add]; omega)), by (first | omega | (simp only [lens, Int.toNat_natCast, bsz, Nat.zero_mul, Nat.zero_add]; omega))⟩, ?_⟩ | refine ⟨rfl, ?_⟩ | refine ⟨congrArg (Value.int _) (by omega), ?_⟩); (conv => whnf))
        | (refine And.intro ?_ ?_; rotate_left; (conv => whnf); rotate_right))
    | true =>
      rw [hR] at hrt
      have hce := cells_api x0 x1
      have ha0 : 0 ≤ x0 % 64 := by omega
      have ha1 : x0 % 64 < 64 := by omega
      have hb0 : 0 ≤ x1 % 64 := by omega
      have hb1 : x1 % 64 < 64 := by omega
      generalize x0 % 64 = a at *
      generalize x1 % 64 = b at *
      have hlen := right_len hR
      have hv := hc.cells _ (elt_mem (t := .u8) (l := c.cells) (i := a.toNat) (by omega))
      have hcm := @set_comm2 c hR a b i0 i1 ha0 ha1 hb0 hb1
      have hsame := @set_same c hR a ha0 ha1
      have hback := @chest_back c hR a ha0 ha1
      have hP := set_api c a i0 hc (fitC_right hR) h00 h01
      have hQ := set_api c b i1 hc (fitC_right hR) h10 h11
      have hPQ := set_api _ b i1 (okC_setC hc hR h00 h01 ha0 ha1) (fitC_right (right_setC hR (i := i0) ha0 ha1)) h10 h11
      have hQP := set_api _ a i0 (okC_setC hc hR h10 h11 hb0 hb1) (fitC_right (right_setC hR (i := i1) hb0 hb1)) h00 h01
      have hSS := same_self _ (okC_setC (okC_setC hc hR h10 h11 hb0 hb1) (right_setC hR (i := i1) hb0 hb1) h00 h01 ha0 ha1)
      have hV := set_api c a _ hc (fitC_right hR) hv.1 hv.2
      have hSc := same_self c hc
      have hT := set_api c a 9 hc (fitC_right hR) (by omega) (by omega)
      have hU := set_api (putC c a 9) a 0 (okC_set hc hR (by omega) (by omega)) (fitC_right (right_put hR ha0 ha1 (by decide))) (by omega) (by omega)
      have hX := box_api (putC c a 9) a (okC_set hc hR (by omega) (by omega)) (fitC_right (right_put hR ha0 ha1 (by decide)))
      rw [boxC_get (right_put hR ha0 ha1 (by decide))] at hX
      have hnew := new_api 6 (by omega) (by omega)
      have hsl := sameSlots_api newBag newBag (by decide)
      rw [sameSlots_self] at hsl
      change Api _ _ _ (.vec .slot newBag) at hnew
      generalize putC c a 9 = T9 at *
      generalize newBag = NB at *
      by_cases hab : a = b
      · subst hab
        generalize setC c a i0 = P at *
        generalize setC c a i1 = Q at *
        generalize setC P.1 a i1 = PQ at *
        generalize setC Q.1 a i0 = QP at *
        obtain ⟨P, e⟩ := P; obtain ⟨Q, g⟩ := Q; obtain ⟨PQ, f⟩ := PQ; obtain ⟨QP, h⟩ := QP
        dsimp only at *
        by_cases h9 : elt .u8 c.cells a.toNat = 9
        · generalize setC c a (elt .u8 c.cells a.toNat) = V at *
          obtain ⟨V, k⟩ := V
          dsimp only at *
          have g9 : (elt .u8 c.cells a.toNat : Int) = (9 : Int) := h9
          refine Api.of_fin cfg_ok Try.func3 rfl (nt := 160) rfl rfl ?_
          conv => whnf
          repeat' (first
            | exact trivial
            | ((first | refine .inl ⟨in64 (by omega) (by omega), ?_⟩ | refine .inl ⟨inU64 (by omega) (by omega), ?_⟩ | refine .inl ⟨inU8 (by omega) (by omega), ?_⟩); (conv => whnf))
            | ((refine ⟨fun hb => ?_, fun hb => ?_⟩) <;> (try simp only [decide_eq_true_eq, decide_eq_false_iff_not, Int.not_lt, Int.not_le, beq_iff_eq, beq_eq_false_iff_ne, bne_iff_ne, bne_eq_false_iff_eq, ne_eq, Decidable.not_not, Bool.not_eq_true', Bool.not_eq_false', Bool.not_eq_true, Bool.not_eq_false, Int.toNat_natCast, Bool.and_eq_true, Bool.or_eq_true, Bool.and_eq_false_iff, Bool.or_eq_false_iff, List.length_nil, List.length_cons] at hb) <;> (first | (exfalso; omega) | contradiction | (conv => whnf)))
            | ((first | (refine callApi (hgr) rfl rfl ?_) | (refine callApiD (hgr) rfl rfl ?_) | (refine callApi (hrt) rfl rfl ?_) | (refine callApiD (hrt) rfl rfl ?_) | (refine callApi (haw) rfl rfl ?_) | (refine callApiD (haw) rfl rfl ?_) | (refine callApi (hce) rfl rfl ?_) | (refine callApiD (hce) rfl rfl ?_) | (refine callApi (hP) rfl rfl ?_) | (refine callApiD (hP) rfl rfl ?_) | (refine callApi (hQ) rfl rfl ?_) | (refine callApiD (hQ) rfl rfl ?_) | (refine callApi (hPQ) rfl rfl ?_) | (refine callApiD (hPQ) rfl rfl ?_) | (refine callApi (hQP) rfl rfl ?_) | (refine callApiD (hQP) rfl rfl ?_) | (refine callApi (hV) rfl rfl ?_) | (refine callApiD (hV) rfl rfl ?_) | refine Draws.of cfg_ok (by kernel_rfl) ?_ | refine ⟨(by kernel_rfl : confB _ _ _ _ _ = true), ?_⟩ | refine ⟨by (first | omega | (simp only [lens, Int.toNat_natCast, bsz, Nat.zero_mul, Nat.zero_add]; omega)), ?_⟩ | refine .inl ⟨by omega, by omega, ?_⟩ | refine .inr ⟨⟨by (first | omega | (simp only [lens, Int.toNat_natCast, bsz, Nat.zero_mul, Nat.zero_add]; omega)), by (first | omega | (simp only [lens, Int.toNat_natCast, bsz, Nat.zero_mul, Nat.zero_add]; omega))⟩, ?_⟩ | refine .inl ⟨⟨by (first | omega | (simp only [lens, Int.toNat_natCast, bsz, Nat.zero_mul, Nat.zero_add]; omega)), by (first | omega | (simp only [lens, Int.toNat_natCast, bsz, Nat.zero_mul, Nat.zero_add]; omega))⟩, ?_⟩ | refine ⟨rfl, ?_⟩ | refine ⟨congrArg (Value.int _) (by omega), ?_⟩); (conv => whnf))
            | (refine And.intro ?_ ?_; rotate_left; (conv => whnf); rotate_right))
        · rw [hsame h9] at hV
          dsimp only at hV
          by_cases h0 : elt .u8 c.cells a.toNat = 0
          · obtain ⟨k1, k2, k3⟩ := hback h0
            rw [k1] at hT
            rw [k2] at hU
            rw [k3] at hX
            dsimp only [Option.getD_some, Option.isSome_some] at hT hU hX
            have g0 : (elt .u8 c.cells a.toNat : Int) = (0 : Int) := h0
            refine Api.of_fin cfg_ok Try.func3 rfl (nt := 160) rfl rfl ?_
            conv => whnf
            repeat' (first
              | exact trivial
              | ((first | refine .inl ⟨in64 (by omega) (by omega), ?_⟩ | refine .inl ⟨inU64 (by omega) (by omega), ?_⟩ | refine .inl ⟨inU8 (by omega) (by omega), ?_⟩); (conv => whnf))
              | ((refine ⟨fun hb => ?_, fun hb => ?_⟩) <;> (try simp only [decide_eq_true_eq, decide_eq_false_iff_not, Int.not_lt, Int.not_le, beq_iff_eq, beq_eq_false_iff_ne, bne_iff_ne, bne_eq_false_iff_eq, ne_eq, Decidable.not_not, Bool.not_eq_true', Bool.not_eq_false', Bool.not_eq_true, Bool.not_eq_false, Int.toNat_natCast, Bool.and_eq_true, Bool.or_eq_true, Bool.and_eq_false_iff, Bool.or_eq_false_iff, List.length_nil, List.length_cons] at hb) <;> (first | (exfalso; omega) | contradiction | (conv => whnf)))
              | ((first | (refine callApi (hgr) rfl rfl ?_) | (refine callApiD (hgr) rfl rfl ?_) | (refine callApi (hrt) rfl rfl ?_) | (refine callApiD (hrt) rfl rfl ?_) | (refine callApi (haw) rfl rfl ?_) | (refine callApiD (haw) rfl rfl ?_) | (refine callApi (hce) rfl rfl ?_) | (refine callApiD (hce) rfl rfl ?_) | (refine callApi (hP) rfl rfl ?_) | (refine callApiD (hP) rfl rfl ?_) | (refine callApi (hQ) rfl rfl ?_) | (refine callApiD (hQ) rfl rfl ?_) | (refine callApi (hPQ) rfl rfl ?_) | (refine callApiD (hPQ) rfl rfl ?_) | (refine callApi (hQP) rfl rfl ?_) | (refine callApiD (hQP) rfl rfl ?_) | (refine callApi (hV) rfl rfl ?_) | (refine callApiD (hV) rfl rfl ?_) | (refine callApi (hSc) rfl rfl ?_) | (refine callApiD (hSc) rfl rfl ?_) | (refine callApi (hT) rfl rfl ?_) | (refine callApiD (hT) rfl rfl ?_) | (refine callApi (hU) rfl rfl ?_) | (refine callApiD (hU) rfl rfl ?_) | (refine callApi (hX) rfl rfl ?_) | (refine callApiD (hX) rfl rfl ?_) | (refine callApi (hnew) rfl rfl ?_) | (refine callApiD (hnew) rfl rfl ?_) | (refine callApi (hsl) rfl rfl ?_) | (refine callApiD (hsl) rfl rfl ?_) | refine Draws.of cfg_ok (by kernel_rfl) ?_ | refine ⟨(by kernel_rfl : confB _ _ _ _ _ = true), ?_⟩ | refine ⟨by (first | omega | (simp only [lens, Int.toNat_natCast, bsz, Nat.zero_mul, Nat.zero_add]; omega)), ?_⟩ | refine .inl ⟨by omega, by omega, ?_⟩ | refine .inr ⟨⟨by (first | omega | (simp only [lens, Int.toNat_natCast, bsz, Nat.zero_mul, Nat.zero_add]; omega)), by (first | omega | (simp only [lens, Int.toNat_natCast, bsz, Nat.zero_mul, Nat.zero_add]; omega))⟩, ?_⟩ | refine .inl ⟨⟨by (first | omega | (simp only [lens, Int.toNat_natCast, bsz, Nat.zero_mul, Nat.zero_add]; omega)), by (first | omega | (simp only [lens, Int.toNat_natCast, bsz, Nat.zero_mul, Nat.zero_add]; omega))⟩, ?_⟩ | refine ⟨rfl, ?_⟩ | refine ⟨congrArg (Value.int _) (by omega), ?_⟩); (conv => whnf))
              | (refine And.intro ?_ ?_; rotate_left; (conv => whnf); rotate_right))
          · have g9 : ¬ (elt .u8 c.cells a.toNat : Int) = (9 : Int) := h9
            have g0 : ¬ (elt .u8 c.cells a.toNat : Int) = (0 : Int) := h0
            refine Api.of_fin cfg_ok Try.func3 rfl (nt := 160) rfl rfl ?_
            conv => whnf
            repeat' (first
              | exact trivial
              | ((first | refine .inl ⟨in64 (by omega) (by omega), ?_⟩ | refine .inl ⟨inU64 (by omega) (by omega), ?_⟩ | refine .inl ⟨inU8 (by omega) (by omega), ?_⟩); (conv => whnf))
              | ((refine ⟨fun hb => ?_, fun hb => ?_⟩) <;> (try simp only [decide_eq_true_eq, decide_eq_false_iff_not, Int.not_lt, Int.not_le, beq_iff_eq, beq_eq_false_iff_ne, bne_iff_ne, bne_eq_false_iff_eq, ne_eq, Decidable.not_not, Bool.not_eq_true', Bool.not_eq_false', Bool.not_eq_true, Bool.not_eq_false, Int.toNat_natCast, Bool.and_eq_true, Bool.or_eq_true, Bool.and_eq_false_iff, Bool.or_eq_false_iff, List.length_nil, List.length_cons] at hb) <;> (first | (exfalso; omega) | contradiction | (conv => whnf)))
              | ((first | (refine callApi (hgr) rfl rfl ?_) | (refine callApiD (hgr) rfl rfl ?_) | (refine callApi (hrt) rfl rfl ?_) | (refine callApiD (hrt) rfl rfl ?_) | (refine callApi (haw) rfl rfl ?_) | (refine callApiD (haw) rfl rfl ?_) | (refine callApi (hce) rfl rfl ?_) | (refine callApiD (hce) rfl rfl ?_) | (refine callApi (hP) rfl rfl ?_) | (refine callApiD (hP) rfl rfl ?_) | (refine callApi (hQ) rfl rfl ?_) | (refine callApiD (hQ) rfl rfl ?_) | (refine callApi (hPQ) rfl rfl ?_) | (refine callApiD (hPQ) rfl rfl ?_) | (refine callApi (hQP) rfl rfl ?_) | (refine callApiD (hQP) rfl rfl ?_) | (refine callApi (hV) rfl rfl ?_) | (refine callApiD (hV) rfl rfl ?_) | (refine callApi (hSc) rfl rfl ?_) | (refine callApiD (hSc) rfl rfl ?_) | refine Draws.of cfg_ok (by kernel_rfl) ?_ | refine ⟨(by kernel_rfl : confB _ _ _ _ _ = true), ?_⟩ | refine ⟨by (first | omega | (simp only [lens, Int.toNat_natCast, bsz, Nat.zero_mul, Nat.zero_add]; omega)), ?_⟩ | refine .inl ⟨by omega, by omega, ?_⟩ | refine .inr ⟨⟨by (first | omega | (simp only [lens, Int.toNat_natCast, bsz, Nat.zero_mul, Nat.zero_add]; omega)), by (first | omega | (simp only [lens, Int.toNat_natCast, bsz, Nat.zero_mul, Nat.zero_add]; omega))⟩, ?_⟩ | refine .inl ⟨⟨by (first | omega | (simp only [lens, Int.toNat_natCast, bsz, Nat.zero_mul, Nat.zero_add]; omega)), by (first | omega | (simp only [lens, Int.toNat_natCast, bsz, Nat.zero_mul, Nat.zero_add]; omega))⟩, ?_⟩ | refine ⟨rfl, ?_⟩ | refine ⟨congrArg (Value.int _) (by omega), ?_⟩); (conv => whnf))
              | (refine And.intro ?_ ?_; rotate_left; (conv => whnf); rotate_right))
      · obtain ⟨k1, k2⟩ := hcm hab
        rw [k1] at hPQ
        generalize setC c a i0 = P at *
        generalize setC c b i1 = Q at *
        generalize setC P.1 b i1 = PQ at *
        generalize setC Q.1 a i0 = QP at *
        obtain ⟨P, e⟩ := P; obtain ⟨Q, g⟩ := Q; obtain ⟨PQ, f⟩ := PQ; obtain ⟨QP, h⟩ := QP
        dsimp only at *
        subst k2
        clear k1 hcm
        by_cases h9 : elt .u8 c.cells a.toNat = 9
        · generalize setC c a (elt .u8 c.cells a.toNat) = V at *
          obtain ⟨V, k⟩ := V
          dsimp only at *
          have g9 : (elt .u8 c.cells a.toNat : Int) = (9 : Int) := h9
          refine Api.of_fin cfg_ok Try.func3 rfl (nt := 160) rfl rfl ?_
          conv => whnf
          repeat' (first
            | exact trivial
            | ((first | refine .inl ⟨in64 (by omega) (by omega), ?_⟩ | refine .inl ⟨inU64 (by omega) (by omega), ?_⟩ | refine .inl ⟨inU8 (by omega) (by omega), ?_⟩); (conv => whnf))
            | ((refine ⟨fun hb => ?_, fun hb => ?_⟩) <;> (try simp only [decide_eq_true_eq, decide_eq_false_iff_not, Int.not_lt, Int.not_le, beq_iff_eq, beq_eq_false_iff_ne, bne_iff_ne, bne_eq_false_iff_eq, ne_eq, Decidable.not_not, Bool.not_eq_true', Bool.not_eq_false', Bool.not_eq_true, Bool.not_eq_false, Int.toNat_natCast, Bool.and_eq_true, Bool.or_eq_true, Bool.and_eq_false_iff, Bool.or_eq_false_iff, List.length_nil, List.length_cons] at hb) <;> (first | (exfalso; omega) | contradiction | (conv => whnf)))
            | ((first | (refine callApi (hgr) rfl rfl ?_) | (refine callApiD (hgr) rfl rfl ?_) | (refine callApi (hrt) rfl rfl ?_) | (refine callApiD (hrt) rfl rfl ?_) | (refine callApi (haw) rfl rfl ?_) | (refine callApiD (haw) rfl rfl ?_) | (refine callApi (hce) rfl rfl ?_) | (refine callApiD (hce) rfl rfl ?_) | (refine callApi (hP) rfl rfl ?_) | (refine callApiD (hP) rfl rfl ?_) | (refine callApi (hQ) rfl rfl ?_) | (refine callApiD (hQ) rfl rfl ?_) | (refine callApi (hPQ) rfl rfl ?_) | (refine callApiD (hPQ) rfl rfl ?_) | (refine callApi (hQP) rfl rfl ?_) | (refine callApiD (hQP) rfl rfl ?_) | (refine callApi (hSS) rfl rfl ?_) | (refine callApiD (hSS) rfl rfl ?_) | (refine callApi (hV) rfl rfl ?_) | (refine callApiD (hV) rfl rfl ?_) | refine Draws.of cfg_ok (by kernel_rfl) ?_ | refine ⟨(by kernel_rfl : confB _ _ _ _ _ = true), ?_⟩ | refine ⟨by (first | omega | (simp only [lens, Int.toNat_natCast, bsz, Nat.zero_mul, Nat.zero_add]; omega)), ?_⟩ | refine .inl ⟨by omega, by omega, ?_⟩ | refine .inr ⟨⟨by (first | omega | (simp only [lens, Int.toNat_natCast, bsz, Nat.zero_mul, Nat.zero_add]; omega)), by (first | omega | (simp only [lens, Int.toNat_natCast, bsz, Nat.zero_mul, Nat.zero_add]; omega))⟩, ?_⟩ | refine .inl ⟨⟨by (first | omega | (simp only [lens, Int.toNat_natCast, bsz, Nat.zero_mul, Nat.zero_add]; omega)), by (first | omega | (simp only [lens, Int.toNat_natCast, bsz, Nat.zero_mul, Nat.zero_add]; omega))⟩, ?_⟩ | refine ⟨rfl, ?_⟩ | refine ⟨congrArg (Value.int _) (by omega), ?_⟩); (conv => whnf))
            | (refine And.intro ?_ ?_; rotate_left; (conv => whnf); rotate_right))
        · rw [hsame h9] at hV
          dsimp only at hV
          by_cases h0 : elt .u8 c.cells a.toNat = 0
          · obtain ⟨k1, k2, k3⟩ := hback h0
            rw [k1] at hT
            rw [k2] at hU
            rw [k3] at hX
            dsimp only [Option.getD_some, Option.isSome_some] at hT hU hX
            have g0 : (elt .u8 c.cells a.toNat : Int) = (0 : Int) := h0
            refine Api.of_fin cfg_ok Try.func3 rfl (nt := 160) rfl rfl ?_
            conv => whnf
            repeat' (first
              | exact trivial
              | ((first | refine .inl ⟨in64 (by omega) (by omega), ?_⟩ | refine .inl ⟨inU64 (by omega) (by omega), ?_⟩ | refine .inl ⟨inU8 (by omega) (by omega), ?_⟩); (conv => whnf))
              | ((refine ⟨fun hb => ?_, fun hb => ?_⟩) <;> (try simp only [decide_eq_true_eq, decide_eq_false_iff_not, Int.not_lt, Int.not_le, beq_iff_eq, beq_eq_false_iff_ne, bne_iff_ne, bne_eq_false_iff_eq, ne_eq, Decidable.not_not, Bool.not_eq_true', Bool.not_eq_false', Bool.not_eq_true, Bool.not_eq_false, Int.toNat_natCast, Bool.and_eq_true, Bool.or_eq_true, Bool.and_eq_false_iff, Bool.or_eq_false_iff, List.length_nil, List.length_cons] at hb) <;> (first | (exfalso; omega) | contradiction | (conv => whnf)))
              | ((first | (refine callApi (hgr) rfl rfl ?_) | (refine callApiD (hgr) rfl rfl ?_) | (refine callApi (hrt) rfl rfl ?_) | (refine callApiD (hrt) rfl rfl ?_) | (refine callApi (haw) rfl rfl ?_) | (refine callApiD (haw) rfl rfl ?_) | (refine callApi (hce) rfl rfl ?_) | (refine callApiD (hce) rfl rfl ?_) | (refine callApi (hP) rfl rfl ?_) | (refine callApiD (hP) rfl rfl ?_) | (refine callApi (hQ) rfl rfl ?_) | (refine callApiD (hQ) rfl rfl ?_) | (refine callApi (hPQ) rfl rfl ?_) | (refine callApiD (hPQ) rfl rfl ?_) | (refine callApi (hQP) rfl rfl ?_) | (refine callApiD (hQP) rfl rfl ?_) | (refine callApi (hSS) rfl rfl ?_) | (refine callApiD (hSS) rfl rfl ?_) | (refine callApi (hV) rfl rfl ?_) | (refine callApiD (hV) rfl rfl ?_) | (refine callApi (hSc) rfl rfl ?_) | (refine callApiD (hSc) rfl rfl ?_) | (refine callApi (hT) rfl rfl ?_) | (refine callApiD (hT) rfl rfl ?_) | (refine callApi (hU) rfl rfl ?_) | (refine callApiD (hU) rfl rfl ?_) | (refine callApi (hX) rfl rfl ?_) | (refine callApiD (hX) rfl rfl ?_) | (refine callApi (hnew) rfl rfl ?_) | (refine callApiD (hnew) rfl rfl ?_) | (refine callApi (hsl) rfl rfl ?_) | (refine callApiD (hsl) rfl rfl ?_) | refine Draws.of cfg_ok (by kernel_rfl) ?_ | refine ⟨(by kernel_rfl : confB _ _ _ _ _ = true), ?_⟩ | refine ⟨by (first | omega | (simp only [lens, Int.toNat_natCast, bsz, Nat.zero_mul, Nat.zero_add]; omega)), ?_⟩ | refine .inl ⟨by omega, by omega, ?_⟩ | refine .inr ⟨⟨by (first | omega | (simp only [lens, Int.toNat_natCast, bsz, Nat.zero_mul, Nat.zero_add]; omega)), by (first | omega | (simp only [lens, Int.toNat_natCast, bsz, Nat.zero_mul, Nat.zero_add]; omega))⟩, ?_⟩ | refine .inl ⟨⟨by (first | omega | (simp only [lens, Int.toNat_natCast, bsz, Nat.zero_mul, Nat.zero_add]; omega)), by (first | omega | (simp only [lens, Int.toNat_natCast, bsz, Nat.zero_mul, Nat.zero_add]; omega))⟩, ?_⟩ | refine ⟨rfl, ?_⟩ | refine ⟨congrArg (Value.int _) (by omega), ?_⟩); (conv => whnf))
              | (refine And.intro ?_ ?_; rotate_left; (conv => whnf); rotate_right))
          · have g9 : ¬ (elt .u8 c.cells a.toNat : Int) = (9 : Int) := h9
            have g0 : ¬ (elt .u8 c.cells a.toNat : Int) = (0 : Int) := h0
            refine Api.of_fin cfg_ok Try.func3 rfl (nt := 160) rfl rfl ?_
            conv => whnf
            repeat' (first
              | exact trivial
              | ((first | refine .inl ⟨in64 (by omega) (by omega), ?_⟩ | refine .inl ⟨inU64 (by omega) (by omega), ?_⟩ | refine .inl ⟨inU8 (by omega) (by omega), ?_⟩); (conv => whnf))
              | ((refine ⟨fun hb => ?_, fun hb => ?_⟩) <;> (try simp only [decide_eq_true_eq, decide_eq_false_iff_not, Int.not_lt, Int.not_le, beq_iff_eq, beq_eq_false_iff_ne, bne_iff_ne, bne_eq_false_iff_eq, ne_eq, Decidable.not_not, Bool.not_eq_true', Bool.not_eq_false', Bool.not_eq_true, Bool.not_eq_false, Int.toNat_natCast, Bool.and_eq_true, Bool.or_eq_true, Bool.and_eq_false_iff, Bool.or_eq_false_iff, List.length_nil, List.length_cons] at hb) <;> (first | (exfalso; omega) | contradiction | (conv => whnf)))
              | ((first | (refine callApi (hgr) rfl rfl ?_) | (refine callApiD (hgr) rfl rfl ?_) | (refine callApi (hrt) rfl rfl ?_) | (refine callApiD (hrt) rfl rfl ?_) | (refine callApi (haw) rfl rfl ?_) | (refine callApiD (haw) rfl rfl ?_) | (refine callApi (hce) rfl rfl ?_) | (refine callApiD (hce) rfl rfl ?_) | (refine callApi (hP) rfl rfl ?_) | (refine callApiD (hP) rfl rfl ?_) | (refine callApi (hQ) rfl rfl ?_) | (refine callApiD (hQ) rfl rfl ?_) | (refine callApi (hPQ) rfl rfl ?_) | (refine callApiD (hPQ) rfl rfl ?_) | (refine callApi (hQP) rfl rfl ?_) | (refine callApiD (hQP) rfl rfl ?_) | (refine callApi (hSS) rfl rfl ?_) | (refine callApiD (hSS) rfl rfl ?_) | (refine callApi (hV) rfl rfl ?_) | (refine callApiD (hV) rfl rfl ?_) | (refine callApi (hSc) rfl rfl ?_) | (refine callApiD (hSc) rfl rfl ?_) | refine Draws.of cfg_ok (by kernel_rfl) ?_ | refine ⟨(by kernel_rfl : confB _ _ _ _ _ = true), ?_⟩ | refine ⟨by (first | omega | (simp only [lens, Int.toNat_natCast, bsz, Nat.zero_mul, Nat.zero_add]; omega)), ?_⟩ | refine .inl ⟨by omega, by omega, ?_⟩ | refine .inr ⟨⟨by (first | omega | (simp only [lens, Int.toNat_natCast, bsz, Nat.zero_mul, Nat.zero_add]; omega)), by (first | omega | (simp only [lens, Int.toNat_natCast, bsz, Nat.zero_mul, Nat.zero_add]; omega))⟩, ?_⟩ | refine .inl ⟨⟨by (first | omega | (simp only [lens, Int.toNat_natCast, bsz, Nat.zero_mul, Nat.zero_add]; omega)), by (first | omega | (simp only [lens, Int.toNat_natCast, bsz, Nat.zero_mul, Nat.zero_add]; omega))⟩, ?_⟩ | refine ⟨rfl, ?_⟩ | refine ⟨congrArg (Value.int _) (by omega), ?_⟩); (conv => whnf))
              | (refine And.intro ?_ ?_; rotate_left; (conv => whnf); rotate_right))

end Go.Proofs.Ytokdgkdpdepaeaa
