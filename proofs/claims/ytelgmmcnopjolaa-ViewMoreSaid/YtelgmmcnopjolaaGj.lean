/- homesteadlaw19.ViewMore. -/
import Derived.Test.YtelgmmcnopjolaaGi
/- homesteadlaw19.ViewMore. -/
set_option linter.unusedSimpArgs false
set_option linter.unusedVariables false
namespace Go.Proofs.Ytelgmmcnopjolaa
open Go Go.RowKit Eng

/-- How many of A were met, in order, in the first i of B. -/
def metN {α κ : Type} [DecidableEq κ] (key : α → κ) (A B : List α) : Nat → Nat
  | 0 => 0
  | i + 1 => match A[metN key A B i]?, B[i]? with
    | some a, some b => if key a = key b then metN key A B i + 1 else metN key A B i
    | _, _ => metN key A B i
theorem met_sub {α κ : Type} [DecidableEq κ] {key : α → κ} {A B : List α} (h : A.Sublist B) : ∀ i, i ≤ B.length → subK key A B (metN key A B i) i
  | 0, _ => sub_zero h
  | i + 1, hi => by
    have ih := met_sub (key := key) h i (by omega)
    have hb : B[i]? = some B[i] := List.getElem?_eq_getElem (by omega)
    unfold metN
    cases ha : A[metN key A B i]? with
    | none => simp only []; exact sub_past ih (by rw [List.getElem?_eq_none_iff] at ha; omega)
    | some a =>
      rw [hb]; simp only []
      split
      · rename_i hk; exact sub_hit ih ha hb hk
      · rename_i hk; exact sub_miss ih ha hb hk
theorem met_end {α κ : Type} [DecidableEq κ] {key : α → κ} {A B : List α} (h : A.Sublist B) : metN key A B B.length = A.length := sub_end (met_sub h _ (Nat.le_refl _))
theorem met_le {α κ : Type} [DecidableEq κ] {key : α → κ} {A B : List α} (i : Nat) : metN key A B i ≤ A.length := by
  induction i with
  | zero => exact Nat.zero_le _
  | succ i ih =>
    unfold metN
    cases ha : A[metN key A B i]? with
    | none => exact ih
    | some a =>
      have := (List.getElem?_eq_some_iff.1 ha).1
      cases hb : B[i]? with
      | none => exact ih
      | some b => simp only []; split <;> omega
def keyXY (c : Chunk) : Int × Int := (c.x, c.y)
def keySeen (s : Seen) : Int × Int × Int := (s.id, s.x, s.y)
theorem met_chunk {A B : List Chunk} (h : A.Sublist B) : ∃ K : Nat → Nat, K 0 = 0 ∧ K B.length = A.length ∧ (∀ i, K i ≤ A.length) ∧
    (∀ i, i < B.length → K i < A.length → (elt .chunk A (K i)).x = (elt .chunk B i).x → (elt .chunk A (K i)).y = (elt .chunk B i).y → K (i + 1) = K i + 1) ∧
    (∀ i, i < B.length → ¬ (K i < A.length ∧ (elt .chunk A (K i)).x = (elt .chunk B i).x ∧ (elt .chunk A (K i)).y = (elt .chunk B i).y) → K (i + 1) = K i) := by
  refine ⟨metN keyXY A B, rfl, met_end h, met_le, fun i hi hk hx hy => ?_, fun i hi hn => ?_⟩
  · rw [metN, elt_get .chunk A _ hk, elt_get .chunk B _ hi]; simp only []; rw [if_pos (show keyXY _ = keyXY _ from Prod.ext_iff.2 ⟨hx, hy⟩)]
  · rw [metN]
    cases ha : A[metN keyXY A B i]? with
    | none => rfl
    | some a =>
      have hl := (List.getElem?_eq_some_iff.1 ha).1
      rw [elt_get .chunk A _ hl] at ha
      rw [elt_get .chunk B _ hi]; simp only []
      rw [← Option.some.inj ha]
      rw [if_neg (fun he => hn ⟨hl, congrArg Prod.fst he, congrArg Prod.snd he⟩)]
theorem met_seen {A B : List Seen} (h : A.Sublist B) : ∃ K : Nat → Nat, K 0 = 0 ∧ K B.length = A.length ∧ (∀ i, K i ≤ A.length) ∧
    (∀ i, i < B.length → K i < A.length → (elt .seen A (K i)).id = (elt .seen B i).id → (elt .seen A (K i)).x = (elt .seen B i).x → (elt .seen A (K i)).y = (elt .seen B i).y → K (i + 1) = K i + 1) ∧
    (∀ i, i < B.length → ¬ (K i < A.length ∧ (elt .seen A (K i)).id = (elt .seen B i).id ∧ (elt .seen A (K i)).x = (elt .seen B i).x ∧ (elt .seen A (K i)).y = (elt .seen B i).y) → K (i + 1) = K i) := by
  refine ⟨metN keySeen A B, rfl, met_end h, met_le, fun i hi hk hn hx hy => ?_, fun i hi hn => ?_⟩
  · rw [metN, elt_get .seen A _ hk, elt_get .seen B _ hi]; simp only []; rw [if_pos (show keySeen _ = keySeen _ from Prod.ext_iff.2 ⟨hn, Prod.ext_iff.2 ⟨hx, hy⟩⟩)]
  · rw [metN]
    cases ha : A[metN keySeen A B i]? with
    | none => rfl
    | some a =>
      have hl := (List.getElem?_eq_some_iff.1 ha).1
      rw [elt_get .seen A _ hl] at ha
      rw [elt_get .seen B _ hi]; simp only []
      rw [← Option.some.inj ha]
      rw [if_neg (fun he => hn ⟨hl, congrArg Prod.fst he, congrArg (fun z => z.2.1) he, congrArg (fun z => z.2.2) he⟩)]

theorem ofW_err {w : Wld} {id r t : Int} (h : 0 ≤ r ∧ r ≤ 3) (h2 : 0 ≤ t ∧ t ≤ 3) : (ofW w id r).2 = (ofW w id t).2 := by
  unfold ofW
  rw [if_neg (show ¬ (r < 0 ∨ 3 < r) by omega), if_neg (show ¬ (t < 0 ∨ 3 < t) by omega)]
  split
  · rfl
  · split <;> rfl
theorem ofW_none {w : Wld} {id r : Int} (h : ¬ (ofW w id r).2 = 0) : (ofW w id r).1 = zeroV := by
  unfold ofW at *
  by_cases h1 : r < 0 ∨ 3 < r
  · rw [if_pos h1]
  · rw [if_neg h1] at h ⊢
    by_cases h2 : rightW w = false
    · rw [if_pos h2]
    · rw [if_neg h2] at h ⊢
      by_cases h3 : (playerW w id).2 = false
      · rw [if_pos h3]
      · rw [if_neg h3] at h; simp at h

set_option maxHeartbeats 4000000 in
set_option maxRecDepth 100000 in
set_option maxHeartbeats 4000000 in
theorem moreV_api (w : Wld) (id b c : Int) (hw : OkW w) (hb0 : 0 ≤ b) (hb1 : b ≤ 255) (hc0 : 0 ≤ c) (hc1 : c ≤ 255) : Api Try.prog 5 [wldV w, i64 id, .agg [.lit (.int .u8 b), .lit (.int .u8 c)]] (bol true) := by
  have hgr := greatW_api w hw
  have haw := awake19_api
  cases hG : greatW w with
  | true =>
    rw [hG] at hgr
    refine Api.of_fin cfg_ok Try.func5 rfl (nt := 158) rfl rfl ?_
    conv => whnf
    repeat' (first
      | exact trivial
      | ((first | refine .inl ⟨in64 (by omega) (by omega), ?_⟩ | refine .inl ⟨inU64 (by omega) (by omega), ?_⟩ | refine .inl ⟨inU8 (by omega) (by omega), ?_⟩); (conv => whnf))
      | ((refine ⟨fun hb => ?_, fun hb => ?_⟩) <;> (try simp only [decide_eq_true_eq, decide_eq_false_iff_not, Int.not_lt, Int.not_le, beq_iff_eq, beq_eq_false_iff_ne, bne_iff_ne, bne_eq_false_iff_eq, ne_eq, Decidable.not_not, Bool.not_eq_true', Bool.not_eq_false', Bool.not_eq_true, Bool.not_eq_false, Int.toNat_natCast, Bool.and_eq_true, Bool.or_eq_true, Bool.and_eq_false_iff, Bool.or_eq_false_iff, List.length_nil, List.length_cons] at hb) <;> (first | (exfalso; omega) | contradiction | exact Bool.noConfusion (show true = false from hb.symm.trans (by assumption)) | exact Bool.noConfusion (show false = true from hb.symm.trans (by assumption)) | (conv => whnf)))
      | ((first | (refine callApi (hgr) rfl rfl ?_) | (refine callApiD (hgr) rfl rfl ?_) | (refine callApi (haw) rfl rfl ?_) | (refine callApiD (haw) rfl rfl ?_) | refine Draws.of cfg_ok (by kernel_rfl) ?_ | refine ⟨(by kernel_rfl : confB _ _ _ _ _ = true), ?_⟩ | refine ⟨by (first | omega | (simp only [lens, Int.toNat_natCast, bsz, Nat.zero_mul, Nat.zero_add]; omega)), ?_⟩ | refine .inl ⟨by omega, by omega, ?_⟩ | refine .inr ⟨⟨by (first | omega | (simp only [lens, Int.toNat_natCast, bsz, Nat.zero_mul, Nat.zero_add]; omega)), by (first | omega | (simp only [lens, Int.toNat_natCast, bsz, Nat.zero_mul, Nat.zero_add]; omega))⟩, ?_⟩ | refine .inl ⟨⟨by (first | omega | (simp only [lens, Int.toNat_natCast, bsz, Nat.zero_mul, Nat.zero_add]; omega)), by (first | omega | (simp only [lens, Int.toNat_natCast, bsz, Nat.zero_mul, Nat.zero_add]; omega))⟩, ?_⟩ | refine ⟨rfl, ?_⟩ | refine ⟨congrArg (Value.int _) (by omega), ?_⟩); (conv => whnf))
      | (refine And.intro ?_ ?_; rotate_left; (conv => whnf); rotate_right))
  | false =>
    rw [hG] at hgr
    have hn := viewOf_api w id (min (b % 4) (c % 4)) hw
    have hf := viewOf_api w id (max (b % 4) (c % 4)) hw
    have hnum := ofW_num w id (min (b % 4) (c % 4))
    have her := ofW_err (w := w) (id := id) (r := min (b % 4) (c % 4)) (t := max (b % 4) (c % 4)) (by omega) (by omega)
    rw [← her] at hf
    by_cases he : (ofW w id (min (b % 4) (c % 4))).2 = 0
    · obtain ⟨_, _, hRW, hP, hof⟩ := ofW_ok he
      rw [her] at he
      obtain ⟨_, _, _, _, hof2⟩ := ofW_ok he
      obtain ⟨hmem, hid⟩ := player_mem hP
      have hsz := hRW.size
      have hpb := (within_iff hRW).1 (hRW.players _ hmem).2
      rw [her, hof2] at hf
      rw [hof] at hn
      have hs1 := rowsV_sub w (playerW w id).1 (r := min (b % 4) (c % 4)) (t := max (b % 4) (c % 4)) (by omega) w.size.toNat w.size.toNat
      have hs2 := othV_sub w.players (playerW w id).1 (r := min (b % 4) (c % 4)) (t := max (b % 4) (c % 4)) (by omega) id w.players.length
      have hc1' := rowsV_cnt w (playerW w id).1 (min (b % 4) (c % 4)) w.size.toNat w.size.toNat
      have hc2' := rowsV_cnt w (playerW w id).1 (max (b % 4) (c % 4)) w.size.toNat w.size.toNat
      have hx1 := cnt_side (a := (playerW w id).1.x / 8) (r := min (b % 4) (c % 4)) (S := w.size.toNat) (by omega) (by omega) (by omega)
      have hy1 := cnt_side (a := (playerW w id).1.y / 8) (r := min (b % 4) (c % 4)) (S := w.size.toNat) (by omega) (by omega) (by omega)
      have hx2 := cnt_side (a := (playerW w id).1.x / 8) (r := max (b % 4) (c % 4)) (S := w.size.toNat) (by omega) (by omega) (by omega)
      have hy2 := cnt_side (a := (playerW w id).1.y / 8) (r := max (b % 4) (c % 4)) (S := w.size.toNat) (by omega) (by omega) (by omega)
      have hz1 : min (b % 4) (c % 4) = 0 → (rowsV w (playerW w id).1 (min (b % 4) (c % 4)) w.size.toNat w.size.toNat).length = 1 := fun h => by
        have h1 : cntI ((playerW w id).1.x / 8) (min (b % 4) (c % 4)) w.size.toNat = 1 := by omega
        have h2 : cntI ((playerW w id).1.y / 8) (min (b % 4) (c % 4)) w.size.toNat = 1 := by omega
        rw [hc1', h1, h2]
      have hz2 : max (b % 4) (c % 4) = 3 → w.size ≤ 4 → ((rowsV w (playerW w id).1 (max (b % 4) (c % 4)) w.size.toNat w.size.toNat).length : Int) = w.size * w.size := fun h h' => by
        have h1 : (cntI ((playerW w id).1.x / 8) (max (b % 4) (c % 4)) w.size.toNat : Int) = w.size := by omega
        have h2 : (cntI ((playerW w id).1.y / 8) (max (b % 4) (c % 4)) w.size.toNat : Int) = w.size := by omega
        rw [hc2', Int.natCast_mul, h1, h2]
      have hl2 := rowsV_len w (playerW w id).1 (max (b % 4) (c % 4)) w.size.toNat w.size.toNat
      have hl3 : w.size.toNat * w.size.toNat ≤ 16 * 16 := Nat.mul_le_mul (by omega) (by omega)
      have hl4 := othV_len w.players (playerW w id).1 (max (b % 4) (c % 4)) id w.players.length
      have hsq : 0 ≤ w.size * w.size ∧ w.size * w.size ≤ 16 * 16 := ⟨Int.mul_nonneg (by omega) (by omega), Int.mul_le_mul (by omega) (by omega) (by omega) (by omega)⟩
      have hnp := hw.np
      have hA := hs1.length_le
      have hU := hs2.length_le
      generalize (playerW w id).1 = p at *
      generalize rowsV w p (min (b % 4) (c % 4)) w.size.toNat w.size.toNat = A at *
      generalize rowsV w p (max (b % 4) (c % 4)) w.size.toNat w.size.toNat = B at *
      generalize othV w.players p (min (b % 4) (c % 4)) id w.players.length = U at *
      generalize othV w.players p (max (b % 4) (c % 4)) id w.players.length = V at *
      obtain ⟨K, k0, k1, k2, k3, k4⟩ := met_chunk hs1
      obtain ⟨J, j0, j1, j2, j3, j4⟩ := met_seen hs2
      clear hof hof2 hc1' hc2' hx1 hx2 hy1 hy2 he hnum her hmem hs1 hs2
      dsimp only [viewV] at hn hf
      refine Api.of_fin cfg_ok Try.func5 rfl (nt := 158) rfl rfl ?_
      conv => whnf
      repeat' (first
        | exact trivial
        | ((first | refine .inl ⟨in64 (by omega) (by omega), ?_⟩ | refine .inl ⟨inU64 (by omega) (by omega), ?_⟩ | refine .inl ⟨inU8 (by omega) (by omega), ?_⟩); (conv => whnf))
        | ((refine ⟨fun hb => ?_, fun hb => ?_⟩) <;> (try simp only [decide_eq_true_eq, decide_eq_false_iff_not, Int.not_lt, Int.not_le, beq_iff_eq, beq_eq_false_iff_ne, bne_iff_ne, bne_eq_false_iff_eq, ne_eq, Decidable.not_not, Bool.not_eq_true', Bool.not_eq_false', Bool.not_eq_true, Bool.not_eq_false, Int.toNat_natCast, Bool.and_eq_true, Bool.or_eq_true, Bool.and_eq_false_iff, Bool.or_eq_false_iff, List.length_nil, List.length_cons] at hb) <;> (first | (exfalso; omega) | contradiction | exact Bool.noConfusion (show true = false from hb.symm.trans (by assumption)) | exact Bool.noConfusion (show false = true from hb.symm.trans (by assumption)) | (conv => whnf)))
        | ((first | (refine callApi (hgr) rfl rfl ?_) | (refine callApiD (hgr) rfl rfl ?_) | (refine callApi (haw) rfl rfl ?_) | (refine callApiD (haw) rfl rfl ?_) | (refine callApi (hn) rfl rfl ?_) | (refine callApiD (hn) rfl rfl ?_) | (refine callApi (hf) rfl rfl ?_) | (refine callApiD (hf) rfl rfl ?_) | refine Draws.of cfg_ok (by kernel_rfl) ?_ | refine ⟨(by kernel_rfl : confB _ _ _ _ _ = true), ?_⟩ | refine ⟨by (first | omega | (simp only [lens, Int.toNat_natCast, bsz, Nat.zero_mul, Nat.zero_add]; omega)), ?_⟩ | refine .inl ⟨by omega, by omega, ?_⟩ | refine .inr ⟨⟨by (first | omega | (simp only [lens, Int.toNat_natCast, bsz, Nat.zero_mul, Nat.zero_add]; omega)), by (first | omega | (simp only [lens, Int.toNat_natCast, bsz, Nat.zero_mul, Nat.zero_add]; omega))⟩, ?_⟩ | refine .inl ⟨⟨by (first | omega | (simp only [lens, Int.toNat_natCast, bsz, Nat.zero_mul, Nat.zero_add]; omega)), by (first | omega | (simp only [lens, Int.toNat_natCast, bsz, Nat.zero_mul, Nat.zero_add]; omega))⟩, ?_⟩ | refine ⟨rfl, ?_⟩ | refine ⟨congrArg (Value.int _) (by omega), ?_⟩); (conv => whnf))
        | (refine And.intro ?_ ?_; rotate_left; (conv => whnf); rotate_right))
      refine Runs.loopQ cfg_ok (σ := Nat) [3, 7, 8, 9, 11, 13, 58, 59, 60] (fun i => [.ptr 6 0, i64 (min (b % 4) (c % 4)), i64 (max (b % 4) (c % 4)), .ptr 18 0, .ptr 22 0, i64 (K i), .vec .chunk B, i64 B.length, i64 i])
        (fun i => [(6, .box (wldC w)), (18, .box [i64 w.tick, i64 p.id, i64 p.x, i64 p.y, .vec .slot p.bag, i64 p.wth, .vec .slot p.offer, bol p.agrees, .vec .chunk A, .vec .seen U]), (22, .box [i64 w.tick, i64 p.id, i64 p.x, i64 p.y, .vec .slot p.bag, i64 p.wth, .vec .slot p.offer, bol p.agrees, .vec .chunk B, .vec .seen V])])
        (fun i => i ≤ B.length) (fun i => B.length - i) 0 (by omega) ?_ ?_
      · conv => whnf
        repeat' (first
          | exact trivial
          | ((first | refine .inl ⟨in64 (by omega) (by omega), ?_⟩ | refine .inl ⟨inU64 (by omega) (by omega), ?_⟩ | refine .inl ⟨inU8 (by omega) (by omega), ?_⟩); (conv => whnf))
          | ((refine ⟨fun hb => ?_, fun hb => ?_⟩) <;> (try simp only [decide_eq_true_eq, decide_eq_false_iff_not, Int.not_lt, Int.not_le, beq_iff_eq, beq_eq_false_iff_ne, bne_iff_ne, bne_eq_false_iff_eq, ne_eq, Decidable.not_not, Bool.not_eq_true', Bool.not_eq_false', Bool.not_eq_true, Bool.not_eq_false, Int.toNat_natCast, Bool.and_eq_true, Bool.or_eq_true, Bool.and_eq_false_iff, Bool.or_eq_false_iff, List.length_nil, List.length_cons] at hb) <;> (first | (exfalso; omega) | contradiction | exact Bool.noConfusion (show true = false from hb.symm.trans (by assumption)) | exact Bool.noConfusion (show false = true from hb.symm.trans (by assumption)) | (conv => whnf)))
          | ((first | refine Draws.of cfg_ok (by kernel_rfl) ?_ | refine ⟨(by kernel_rfl : confB _ _ _ _ _ = true), ?_⟩ | refine ⟨by (first | omega | (simp only [lens, Int.toNat_natCast, bsz, Nat.zero_mul, Nat.zero_add]; omega)), ?_⟩ | refine .inl ⟨by omega, by omega, ?_⟩ | refine .inr ⟨⟨by (first | omega | (simp only [lens, Int.toNat_natCast, bsz, Nat.zero_mul, Nat.zero_add]; omega)), by (first | omega | (simp only [lens, Int.toNat_natCast, bsz, Nat.zero_mul, Nat.zero_add]; omega))⟩, ?_⟩ | refine .inl ⟨⟨by (first | omega | (simp only [lens, Int.toNat_natCast, bsz, Nat.zero_mul, Nat.zero_add]; omega)), by (first | omega | (simp only [lens, Int.toNat_natCast, bsz, Nat.zero_mul, Nat.zero_add]; omega))⟩, ?_⟩ | refine ⟨rfl, ?_⟩ | refine ⟨congrArg (Value.int _) (by omega), ?_⟩); (conv => whnf))
          | (refine And.intro ?_ ?_; rotate_left; (conv => whnf); rotate_right))
        all_goals first | rfl | omega | (rw [k0]; rfl) | trace_state
      · intro i hi N hN hE hT
        have hki := k2 i
        by_cases hlk : i < B.length
        · have f3 := k3 i hlk
          have f4 := k4 i hlk
          conv => whnf
          repeat' (first
            | exact trivial
            | ((first | refine .inl ⟨in64 (by omega) (by omega), ?_⟩ | refine .inl ⟨inU64 (by omega) (by omega), ?_⟩ | refine .inl ⟨inU8 (by omega) (by omega), ?_⟩); (conv => whnf))
            | ((refine ⟨fun hb => ?_, fun hb => ?_⟩) <;> (try simp only [decide_eq_true_eq, decide_eq_false_iff_not, Int.not_lt, Int.not_le, beq_iff_eq, beq_eq_false_iff_ne, bne_iff_ne, bne_eq_false_iff_eq, ne_eq, Decidable.not_not, Bool.not_eq_true', Bool.not_eq_false', Bool.not_eq_true, Bool.not_eq_false, Int.toNat_natCast, Bool.and_eq_true, Bool.or_eq_true, Bool.and_eq_false_iff, Bool.or_eq_false_iff, List.length_nil, List.length_cons] at hb) <;> (first | (exfalso; omega) | contradiction | exact Bool.noConfusion (show true = false from hb.symm.trans (by assumption)) | exact Bool.noConfusion (show false = true from hb.symm.trans (by assumption)) | (conv => whnf)))
            | ((first | refine Draws.of cfg_ok (by kernel_rfl) ?_ | refine ⟨(by kernel_rfl : confB _ _ _ _ _ = true), ?_⟩ | refine ⟨by (first | omega | (simp only [lens, Int.toNat_natCast, bsz, Nat.zero_mul, Nat.zero_add]; omega)), ?_⟩ | refine .inl ⟨by omega, by omega, ?_⟩ | refine .inr ⟨⟨by (first | omega | (simp only [lens, Int.toNat_natCast, bsz, Nat.zero_mul, Nat.zero_add]; omega)), by (first | omega | (simp only [lens, Int.toNat_natCast, bsz, Nat.zero_mul, Nat.zero_add]; omega))⟩, ?_⟩ | refine .inl ⟨⟨by (first | omega | (simp only [lens, Int.toNat_natCast, bsz, Nat.zero_mul, Nat.zero_add]; omega)), by (first | omega | (simp only [lens, Int.toNat_natCast, bsz, Nat.zero_mul, Nat.zero_add]; omega))⟩, ?_⟩ | refine ⟨rfl, ?_⟩ | refine ⟨congrArg (Value.int _) (by omega), ?_⟩); (conv => whnf))
            | (refine And.intro ?_ ?_; rotate_left; (conv => whnf); rotate_right))
          all_goals (refine hN _ _ ?_; (conv => whnf); refine .to (i + 1) (by omega) (by omega) ?_; (conv => whnf))
          repeat' (first
            | exact trivial
            | ((first | refine .inl ⟨in64 (by omega) (by omega), ?_⟩ | refine .inl ⟨inU64 (by omega) (by omega), ?_⟩ | refine .inl ⟨inU8 (by omega) (by omega), ?_⟩); (conv => whnf))
            | ((refine ⟨fun hb => ?_, fun hb => ?_⟩) <;> (try simp only [decide_eq_true_eq, decide_eq_false_iff_not, Int.not_lt, Int.not_le, beq_iff_eq, beq_eq_false_iff_ne, bne_iff_ne, bne_eq_false_iff_eq, ne_eq, Decidable.not_not, Bool.not_eq_true', Bool.not_eq_false', Bool.not_eq_true, Bool.not_eq_false, Int.toNat_natCast, Bool.and_eq_true, Bool.or_eq_true, Bool.and_eq_false_iff, Bool.or_eq_false_iff, List.length_nil, List.length_cons] at hb) <;> (first | (exfalso; omega) | contradiction | exact Bool.noConfusion (show true = false from hb.symm.trans (by assumption)) | exact Bool.noConfusion (show false = true from hb.symm.trans (by assumption)) | (conv => whnf)))
            | ((first | refine Draws.of cfg_ok (by kernel_rfl) ?_ | refine ⟨(by kernel_rfl : confB _ _ _ _ _ = true), ?_⟩ | refine ⟨by (first | omega | (simp only [lens, Int.toNat_natCast, bsz, Nat.zero_mul, Nat.zero_add]; omega)), ?_⟩ | refine .inl ⟨by omega, by omega, ?_⟩ | refine .inr ⟨⟨by (first | omega | (simp only [lens, Int.toNat_natCast, bsz, Nat.zero_mul, Nat.zero_add]; omega)), by (first | omega | (simp only [lens, Int.toNat_natCast, bsz, Nat.zero_mul, Nat.zero_add]; omega))⟩, ?_⟩ | refine .inl ⟨⟨by (first | omega | (simp only [lens, Int.toNat_natCast, bsz, Nat.zero_mul, Nat.zero_add]; omega)), by (first | omega | (simp only [lens, Int.toNat_natCast, bsz, Nat.zero_mul, Nat.zero_add]; omega))⟩, ?_⟩ | refine ⟨rfl, ?_⟩ | refine ⟨congrArg (Value.int _) (by omega), ?_⟩); (conv => whnf))
            | (refine And.intro ?_ ?_; rotate_left; (conv => whnf); rotate_right))
          all_goals first | rfl | omega | (refine congrArg (Value.int .i64) ?_; rw [f3 (by omega) (by assumption) (by assumption)]; rfl) | (refine congrArg (Value.int .i64) ?_; rw [f4 (by rintro ⟨h1, h2, h3⟩; first | omega | contradiction)]) | trace_state
        · obtain rfl : i = B.length := by omega
          conv => whnf
          repeat' (first
            | exact trivial
            | ((first | refine .inl ⟨in64 (by omega) (by omega), ?_⟩ | refine .inl ⟨inU64 (by omega) (by omega), ?_⟩ | refine .inl ⟨inU8 (by omega) (by omega), ?_⟩); (conv => whnf))
            | ((refine ⟨fun hb => ?_, fun hb => ?_⟩) <;> (try simp only [decide_eq_true_eq, decide_eq_false_iff_not, Int.not_lt, Int.not_le, beq_iff_eq, beq_eq_false_iff_ne, bne_iff_ne, bne_eq_false_iff_eq, ne_eq, Decidable.not_not, Bool.not_eq_true', Bool.not_eq_false', Bool.not_eq_true, Bool.not_eq_false, Int.toNat_natCast, Bool.and_eq_true, Bool.or_eq_true, Bool.and_eq_false_iff, Bool.or_eq_false_iff, List.length_nil, List.length_cons] at hb) <;> (first | (exfalso; omega) | contradiction | exact Bool.noConfusion (show true = false from hb.symm.trans (by assumption)) | exact Bool.noConfusion (show false = true from hb.symm.trans (by assumption)) | (conv => whnf)))
            | ((first | refine Draws.of cfg_ok (by kernel_rfl) ?_ | refine ⟨(by kernel_rfl : confB _ _ _ _ _ = true), ?_⟩ | refine ⟨by (first | omega | (simp only [lens, Int.toNat_natCast, bsz, Nat.zero_mul, Nat.zero_add]; omega)), ?_⟩ | refine .inl ⟨by omega, by omega, ?_⟩ | refine .inr ⟨⟨by (first | omega | (simp only [lens, Int.toNat_natCast, bsz, Nat.zero_mul, Nat.zero_add]; omega)), by (first | omega | (simp only [lens, Int.toNat_natCast, bsz, Nat.zero_mul, Nat.zero_add]; omega))⟩, ?_⟩ | refine .inl ⟨⟨by (first | omega | (simp only [lens, Int.toNat_natCast, bsz, Nat.zero_mul, Nat.zero_add]; omega)), by (first | omega | (simp only [lens, Int.toNat_natCast, bsz, Nat.zero_mul, Nat.zero_add]; omega))⟩, ?_⟩ | refine ⟨rfl, ?_⟩ | refine ⟨congrArg (Value.int _) (by omega), ?_⟩); (conv => whnf))
            | (refine And.intro ?_ ?_; rotate_left; (conv => whnf); rotate_right))
          refine hE _ _ _ ?_
          conv => whnf
          repeat' (first
            | exact trivial
            | ((first | refine .inl ⟨in64 (by omega) (by omega), ?_⟩ | refine .inl ⟨inU64 (by omega) (by omega), ?_⟩ | refine .inl ⟨inU8 (by omega) (by omega), ?_⟩); (conv => whnf))
            | ((refine ⟨fun hb => ?_, fun hb => ?_⟩) <;> (try simp only [decide_eq_true_eq, decide_eq_false_iff_not, Int.not_lt, Int.not_le, beq_iff_eq, beq_eq_false_iff_ne, bne_iff_ne, bne_eq_false_iff_eq, ne_eq, Decidable.not_not, Bool.not_eq_true', Bool.not_eq_false', Bool.not_eq_true, Bool.not_eq_false, Int.toNat_natCast, Bool.and_eq_true, Bool.or_eq_true, Bool.and_eq_false_iff, Bool.or_eq_false_iff, List.length_nil, List.length_cons] at hb) <;> (first | (exfalso; omega) | contradiction | exact Bool.noConfusion (show true = false from hb.symm.trans (by assumption)) | exact Bool.noConfusion (show false = true from hb.symm.trans (by assumption)) | (conv => whnf)))
            | ((first | refine Draws.of cfg_ok (by kernel_rfl) ?_ | refine ⟨(by kernel_rfl : confB _ _ _ _ _ = true), ?_⟩ | refine ⟨by (first | omega | (simp only [lens, Int.toNat_natCast, bsz, Nat.zero_mul, Nat.zero_add]; omega)), ?_⟩ | refine .inl ⟨by omega, by omega, ?_⟩ | refine .inr ⟨⟨by (first | omega | (simp only [lens, Int.toNat_natCast, bsz, Nat.zero_mul, Nat.zero_add]; omega)), by (first | omega | (simp only [lens, Int.toNat_natCast, bsz, Nat.zero_mul, Nat.zero_add]; omega))⟩, ?_⟩ | refine .inl ⟨⟨by (first | omega | (simp only [lens, Int.toNat_natCast, bsz, Nat.zero_mul, Nat.zero_add]; omega)), by (first | omega | (simp only [lens, Int.toNat_natCast, bsz, Nat.zero_mul, Nat.zero_add]; omega))⟩, ?_⟩ | refine ⟨rfl, ?_⟩ | refine ⟨congrArg (Value.int _) (by omega), ?_⟩); (conv => whnf))
            | (refine And.intro ?_ ?_; rotate_left; (conv => whnf); rotate_right))
          refine Runs.loopQ cfg_ok (σ := Nat) [3, 7, 8, 9, 11, 13, 100, 101, 102] (fun i => [.ptr 6 0, i64 (min (b % 4) (c % 4)), i64 (max (b % 4) (c % 4)), .ptr 18 0, .ptr 22 0, i64 (J i), .vec .seen V, i64 V.length, i64 i])
            (fun i => [(6, .box (wldC w)), (18, .box [i64 w.tick, i64 p.id, i64 p.x, i64 p.y, .vec .slot p.bag, i64 p.wth, .vec .slot p.offer, bol p.agrees, .vec .chunk A, .vec .seen U]), (22, .box [i64 w.tick, i64 p.id, i64 p.x, i64 p.y, .vec .slot p.bag, i64 p.wth, .vec .slot p.offer, bol p.agrees, .vec .chunk B, .vec .seen V])])
            (fun i => i ≤ V.length) (fun i => V.length - i) 0 (by omega) ?_ ?_
          · conv => whnf
            repeat' (first
              | exact trivial
              | ((first | refine .inl ⟨in64 (by omega) (by omega), ?_⟩ | refine .inl ⟨inU64 (by omega) (by omega), ?_⟩ | refine .inl ⟨inU8 (by omega) (by omega), ?_⟩); (conv => whnf))
              | ((refine ⟨fun hb => ?_, fun hb => ?_⟩) <;> (try simp only [decide_eq_true_eq, decide_eq_false_iff_not, Int.not_lt, Int.not_le, beq_iff_eq, beq_eq_false_iff_ne, bne_iff_ne, bne_eq_false_iff_eq, ne_eq, Decidable.not_not, Bool.not_eq_true', Bool.not_eq_false', Bool.not_eq_true, Bool.not_eq_false, Int.toNat_natCast, Bool.and_eq_true, Bool.or_eq_true, Bool.and_eq_false_iff, Bool.or_eq_false_iff, List.length_nil, List.length_cons] at hb) <;> (first | (exfalso; omega) | contradiction | exact Bool.noConfusion (show true = false from hb.symm.trans (by assumption)) | exact Bool.noConfusion (show false = true from hb.symm.trans (by assumption)) | (conv => whnf)))
              | ((first | refine Draws.of cfg_ok (by kernel_rfl) ?_ | refine ⟨(by kernel_rfl : confB _ _ _ _ _ = true), ?_⟩ | refine ⟨by (first | omega | (simp only [lens, Int.toNat_natCast, bsz, Nat.zero_mul, Nat.zero_add]; omega)), ?_⟩ | refine .inl ⟨by omega, by omega, ?_⟩ | refine .inr ⟨⟨by (first | omega | (simp only [lens, Int.toNat_natCast, bsz, Nat.zero_mul, Nat.zero_add]; omega)), by (first | omega | (simp only [lens, Int.toNat_natCast, bsz, Nat.zero_mul, Nat.zero_add]; omega))⟩, ?_⟩ | refine .inl ⟨⟨by (first | omega | (simp only [lens, Int.toNat_natCast, bsz, Nat.zero_mul, Nat.zero_add]; omega)), by (first | omega | (simp only [lens, Int.toNat_natCast, bsz, Nat.zero_mul, Nat.zero_add]; omega))⟩, ?_⟩ | refine ⟨rfl, ?_⟩ | refine ⟨congrArg (Value.int _) (by omega), ?_⟩); (conv => whnf))
              | (refine And.intro ?_ ?_; rotate_left; (conv => whnf); rotate_right))
            all_goals first | rfl | omega | (rw [j0]; rfl) | trace_state
          · intro i hi N hN hE hT
            have hji := j2 i
            by_cases hlk : i < V.length
            · have f3 := j3 i hlk
              have f4 := j4 i hlk
              conv => whnf
              repeat' (first
                | exact trivial
                | ((first | refine .inl ⟨in64 (by omega) (by omega), ?_⟩ | refine .inl ⟨inU64 (by omega) (by omega), ?_⟩ | refine .inl ⟨inU8 (by omega) (by omega), ?_⟩); (conv => whnf))
                | ((refine ⟨fun hb => ?_, fun hb => ?_⟩) <;> (try simp only [decide_eq_true_eq, decide_eq_false_iff_not, Int.not_lt, Int.not_le, beq_iff_eq, beq_eq_false_iff_ne, bne_iff_ne, bne_eq_false_iff_eq, ne_eq, Decidable.not_not, Bool.not_eq_true', Bool.not_eq_false', Bool.not_eq_true, Bool.not_eq_false, Int.toNat_natCast, Bool.and_eq_true, Bool.or_eq_true, Bool.and_eq_false_iff, Bool.or_eq_false_iff, List.length_nil, List.length_cons] at hb) <;> (first | (exfalso; omega) | contradiction | exact Bool.noConfusion (show true = false from hb.symm.trans (by assumption)) | exact Bool.noConfusion (show false = true from hb.symm.trans (by assumption)) | (conv => whnf)))
                | ((first | refine Draws.of cfg_ok (by kernel_rfl) ?_ | refine ⟨(by kernel_rfl : confB _ _ _ _ _ = true), ?_⟩ | refine ⟨by (first | omega | (simp only [lens, Int.toNat_natCast, bsz, Nat.zero_mul, Nat.zero_add]; omega)), ?_⟩ | refine .inl ⟨by omega, by omega, ?_⟩ | refine .inr ⟨⟨by (first | omega | (simp only [lens, Int.toNat_natCast, bsz, Nat.zero_mul, Nat.zero_add]; omega)), by (first | omega | (simp only [lens, Int.toNat_natCast, bsz, Nat.zero_mul, Nat.zero_add]; omega))⟩, ?_⟩ | refine .inl ⟨⟨by (first | omega | (simp only [lens, Int.toNat_natCast, bsz, Nat.zero_mul, Nat.zero_add]; omega)), by (first | omega | (simp only [lens, Int.toNat_natCast, bsz, Nat.zero_mul, Nat.zero_add]; omega))⟩, ?_⟩ | refine ⟨rfl, ?_⟩ | refine ⟨congrArg (Value.int _) (by omega), ?_⟩); (conv => whnf))
                | (refine And.intro ?_ ?_; rotate_left; (conv => whnf); rotate_right))
              all_goals (refine hN _ _ ?_; (conv => whnf); refine .to (i + 1) (by omega) (by omega) ?_; (conv => whnf))
              repeat' (first
                | exact trivial
                | ((first | refine .inl ⟨in64 (by omega) (by omega), ?_⟩ | refine .inl ⟨inU64 (by omega) (by omega), ?_⟩ | refine .inl ⟨inU8 (by omega) (by omega), ?_⟩); (conv => whnf))
                | ((refine ⟨fun hb => ?_, fun hb => ?_⟩) <;> (try simp only [decide_eq_true_eq, decide_eq_false_iff_not, Int.not_lt, Int.not_le, beq_iff_eq, beq_eq_false_iff_ne, bne_iff_ne, bne_eq_false_iff_eq, ne_eq, Decidable.not_not, Bool.not_eq_true', Bool.not_eq_false', Bool.not_eq_true, Bool.not_eq_false, Int.toNat_natCast, Bool.and_eq_true, Bool.or_eq_true, Bool.and_eq_false_iff, Bool.or_eq_false_iff, List.length_nil, List.length_cons] at hb) <;> (first | (exfalso; omega) | contradiction | exact Bool.noConfusion (show true = false from hb.symm.trans (by assumption)) | exact Bool.noConfusion (show false = true from hb.symm.trans (by assumption)) | (conv => whnf)))
                | ((first | refine Draws.of cfg_ok (by kernel_rfl) ?_ | refine ⟨(by kernel_rfl : confB _ _ _ _ _ = true), ?_⟩ | refine ⟨by (first | omega | (simp only [lens, Int.toNat_natCast, bsz, Nat.zero_mul, Nat.zero_add]; omega)), ?_⟩ | refine .inl ⟨by omega, by omega, ?_⟩ | refine .inr ⟨⟨by (first | omega | (simp only [lens, Int.toNat_natCast, bsz, Nat.zero_mul, Nat.zero_add]; omega)), by (first | omega | (simp only [lens, Int.toNat_natCast, bsz, Nat.zero_mul, Nat.zero_add]; omega))⟩, ?_⟩ | refine .inl ⟨⟨by (first | omega | (simp only [lens, Int.toNat_natCast, bsz, Nat.zero_mul, Nat.zero_add]; omega)), by (first | omega | (simp only [lens, Int.toNat_natCast, bsz, Nat.zero_mul, Nat.zero_add]; omega))⟩, ?_⟩ | refine ⟨rfl, ?_⟩ | refine ⟨congrArg (Value.int _) (by omega), ?_⟩); (conv => whnf))
                | (refine And.intro ?_ ?_; rotate_left; (conv => whnf); rotate_right))
              all_goals first | rfl | omega | (refine congrArg (Value.int .i64) ?_; rw [f3 (by omega) (by assumption) (by assumption) (by assumption)]; rfl) | (refine congrArg (Value.int .i64) ?_; rw [f4 (by rintro ⟨h1, h2, h3, h4⟩; first | omega | contradiction)]) | trace_state
            · obtain rfl : i = V.length := by omega
              conv => whnf
              repeat' (first
                | exact trivial
                | ((first | refine .inl ⟨in64 (by omega) (by omega), ?_⟩ | refine .inl ⟨inU64 (by omega) (by omega), ?_⟩ | refine .inl ⟨inU8 (by omega) (by omega), ?_⟩); (conv => whnf))
                | ((refine ⟨fun hb => ?_, fun hb => ?_⟩) <;> (try simp only [decide_eq_true_eq, decide_eq_false_iff_not, Int.not_lt, Int.not_le, beq_iff_eq, beq_eq_false_iff_ne, bne_iff_ne, bne_eq_false_iff_eq, ne_eq, Decidable.not_not, Bool.not_eq_true', Bool.not_eq_false', Bool.not_eq_true, Bool.not_eq_false, Int.toNat_natCast, Bool.and_eq_true, Bool.or_eq_true, Bool.and_eq_false_iff, Bool.or_eq_false_iff, List.length_nil, List.length_cons] at hb) <;> (first | (exfalso; omega) | contradiction | exact Bool.noConfusion (show true = false from hb.symm.trans (by assumption)) | exact Bool.noConfusion (show false = true from hb.symm.trans (by assumption)) | (conv => whnf)))
                | ((first | refine Draws.of cfg_ok (by kernel_rfl) ?_ | refine ⟨(by kernel_rfl : confB _ _ _ _ _ = true), ?_⟩ | refine ⟨by (first | omega | (simp only [lens, Int.toNat_natCast, bsz, Nat.zero_mul, Nat.zero_add]; omega)), ?_⟩ | refine .inl ⟨by omega, by omega, ?_⟩ | refine .inr ⟨⟨by (first | omega | (simp only [lens, Int.toNat_natCast, bsz, Nat.zero_mul, Nat.zero_add]; omega)), by (first | omega | (simp only [lens, Int.toNat_natCast, bsz, Nat.zero_mul, Nat.zero_add]; omega))⟩, ?_⟩ | refine .inl ⟨⟨by (first | omega | (simp only [lens, Int.toNat_natCast, bsz, Nat.zero_mul, Nat.zero_add]; omega)), by (first | omega | (simp only [lens, Int.toNat_natCast, bsz, Nat.zero_mul, Nat.zero_add]; omega))⟩, ?_⟩ | refine ⟨rfl, ?_⟩ | refine ⟨congrArg (Value.int _) (by omega), ?_⟩); (conv => whnf))
                | (refine And.intro ?_ ?_; rotate_left; (conv => whnf); rotate_right))
              refine hE _ _ _ ?_
              conv => whnf
              repeat' (first
                | exact trivial
                | ((first | refine .inl ⟨in64 (by omega) (by omega), ?_⟩ | refine .inl ⟨inU64 (by omega) (by omega), ?_⟩ | refine .inl ⟨inU8 (by omega) (by omega), ?_⟩); (conv => whnf))
                | ((refine ⟨fun hb => ?_, fun hb => ?_⟩) <;> (try simp only [decide_eq_true_eq, decide_eq_false_iff_not, Int.not_lt, Int.not_le, beq_iff_eq, beq_eq_false_iff_ne, bne_iff_ne, bne_eq_false_iff_eq, ne_eq, Decidable.not_not, Bool.not_eq_true', Bool.not_eq_false', Bool.not_eq_true, Bool.not_eq_false, Int.toNat_natCast, Bool.and_eq_true, Bool.or_eq_true, Bool.and_eq_false_iff, Bool.or_eq_false_iff, List.length_nil, List.length_cons] at hb) <;> (first | (exfalso; omega) | contradiction | exact Bool.noConfusion (show true = false from hb.symm.trans (by assumption)) | exact Bool.noConfusion (show false = true from hb.symm.trans (by assumption)) | (conv => whnf)))
                | ((first | (refine callApi (haw) rfl rfl ?_) | (refine callApiD (haw) rfl rfl ?_) | refine Draws.of cfg_ok (by kernel_rfl) ?_ | refine ⟨(by kernel_rfl : confB _ _ _ _ _ = true), ?_⟩ | refine ⟨by (first | omega | (simp only [lens, Int.toNat_natCast, bsz, Nat.zero_mul, Nat.zero_add]; omega)), ?_⟩ | refine .inl ⟨by omega, by omega, ?_⟩ | refine .inr ⟨⟨by (first | omega | (simp only [lens, Int.toNat_natCast, bsz, Nat.zero_mul, Nat.zero_add]; omega)), by (first | omega | (simp only [lens, Int.toNat_natCast, bsz, Nat.zero_mul, Nat.zero_add]; omega))⟩, ?_⟩ | refine .inl ⟨⟨by (first | omega | (simp only [lens, Int.toNat_natCast, bsz, Nat.zero_mul, Nat.zero_add]; omega)), by (first | omega | (simp only [lens, Int.toNat_natCast, bsz, Nat.zero_mul, Nat.zero_add]; omega))⟩, ?_⟩ | refine ⟨rfl, ?_⟩ | refine ⟨congrArg (Value.int _) (by omega), ?_⟩); (conv => whnf))
                | (refine And.intro ?_ ?_; rotate_left; (conv => whnf); rotate_right))
              all_goals first | rfl | omega | trace_state
    · have hz := ofW_none he
      generalize ofW w id (min (b % 4) (c % 4)) = X at *
      generalize ofW w id (max (b % 4) (c % 4)) = Y at *
      refine Api.of_fin cfg_ok Try.func5 rfl (nt := 158) rfl rfl ?_
      conv => whnf
      repeat' (first
        | exact trivial
        | ((first | refine .inl ⟨in64 (by omega) (by omega), ?_⟩ | refine .inl ⟨inU64 (by omega) (by omega), ?_⟩ | refine .inl ⟨inU8 (by omega) (by omega), ?_⟩); (conv => whnf))
        | ((refine ⟨fun hb => ?_, fun hb => ?_⟩) <;> (try simp only [decide_eq_true_eq, decide_eq_false_iff_not, Int.not_lt, Int.not_le, beq_iff_eq, beq_eq_false_iff_ne, bne_iff_ne, bne_eq_false_iff_eq, ne_eq, Decidable.not_not, Bool.not_eq_true', Bool.not_eq_false', Bool.not_eq_true, Bool.not_eq_false, Int.toNat_natCast, Bool.and_eq_true, Bool.or_eq_true, Bool.and_eq_false_iff, Bool.or_eq_false_iff, List.length_nil, List.length_cons] at hb) <;> (first | (exfalso; omega) | contradiction | exact Bool.noConfusion (show true = false from hb.symm.trans (by assumption)) | exact Bool.noConfusion (show false = true from hb.symm.trans (by assumption)) | (conv => whnf)))
        | ((first | (refine callApi (hgr) rfl rfl ?_) | (refine callApiD (hgr) rfl rfl ?_) | (refine callApi (haw) rfl rfl ?_) | (refine callApiD (haw) rfl rfl ?_) | (refine callApi (hn) rfl rfl ?_) | (refine callApiD (hn) rfl rfl ?_) | (refine callApi (hf) rfl rfl ?_) | (refine callApiD (hf) rfl rfl ?_) | refine Draws.of cfg_ok (by kernel_rfl) ?_ | refine ⟨(by kernel_rfl : confB _ _ _ _ _ = true), ?_⟩ | refine ⟨by (first | omega | (simp only [lens, Int.toNat_natCast, bsz, Nat.zero_mul, Nat.zero_add]; omega)), ?_⟩ | refine .inl ⟨by omega, by omega, ?_⟩ | refine .inr ⟨⟨by (first | omega | (simp only [lens, Int.toNat_natCast, bsz, Nat.zero_mul, Nat.zero_add]; omega)), by (first | omega | (simp only [lens, Int.toNat_natCast, bsz, Nat.zero_mul, Nat.zero_add]; omega))⟩, ?_⟩ | refine .inl ⟨⟨by (first | omega | (simp only [lens, Int.toNat_natCast, bsz, Nat.zero_mul, Nat.zero_add]; omega)), by (first | omega | (simp only [lens, Int.toNat_natCast, bsz, Nat.zero_mul, Nat.zero_add]; omega))⟩, ?_⟩ | refine ⟨rfl, ?_⟩ | refine ⟨congrArg (Value.int _) (by omega), ?_⟩); (conv => whnf))
        | (refine And.intro ?_ ?_; rotate_left; (conv => whnf); rotate_right))
      all_goals first | omega | rfl | trace_state

end Go.Proofs.Ytelgmmcnopjolaa
