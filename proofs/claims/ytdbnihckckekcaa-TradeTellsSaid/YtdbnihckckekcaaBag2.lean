
/- bag.Put, Take, All, Count. -/
import Derived.Test.YtdbnihckckekcaaLib2
import Derived.Test.YtdbnihckckekcaaGive
set_option linter.unusedSimpArgs false
set_option linter.unusedVariables false
namespace Go.Proofs.Ytdbnihckckekcaa
open Go Go.RowKit Eng

def mayI (i : Int) (s : Slot) : Bool := s.item == i
def may0 (s : Slot) : Bool := s.n == 0
def fstep (may : Slot → Bool) (i size : Int) (p : List Slot × Int) (s : Slot) : List Slot × Int :=
  if may s = true ∧ 0 < min (size - s.n) p.2 then (p.1 ++ [⟨i, s.n + min (size - s.n) p.2⟩], p.2 - min (size - s.n) p.2) else (p.1 ++ [s], p.2)
def fillS (may : Slot → Bool) (i size : Int) (l : List Slot) (n : Int) : List Slot × Int := l.foldl (fstep may i size) ([], n)
theorem fillS_next {may : Slot → Bool} {i size : Int} {l : List Slot} {n : Int} {k : Nat} (h : k < l.length) : fillS may i size (l.take (k + 1)) n = fstep may i size (fillS may i size (l.take k) n) (elt .slot l k) := by
  have := elt_get .slot l k h
  unfold fillS
  rw [List.take_add_one, this]
  simp
theorem fillS_len {may : Slot → Bool} {i size : Int} : ∀ (l : List Slot) (p : List Slot × Int), (l.foldl (fstep may i size) p).1.length = p.1.length + l.length
  | [], p => by simp
  | s :: r, p => by
    rw [List.foldl_cons, fillS_len r]
    unfold fstep
    split <;> simp <;> omega
theorem fillS_length (may : Slot → Bool) (i size : Int) (l : List Slot) (n : Int) : (fillS may i size l n).1.length = l.length := by
  have := fillS_len (may := may) (i := i) (size := size) l ([], n)
  simpa [fillS] using this
def smallN (l : List Slot) : Prop := ∀ s ∈ l, 0 ≤ s.n ∧ s.n ≤ 16
theorem fillS_bd {may : Slot → Bool} {i size : Int} (hz : size ≤ 16) : ∀ (l : List Slot) (p : List Slot × Int), 0 ≤ p.2 → smallN l → smallN p.1 → smallN (l.foldl (fstep may i size) p).1 ∧ 0 ≤ (l.foldl (fstep may i size) p).2 ∧ (l.foldl (fstep may i size) p).2 ≤ p.2
  | [], p, h0, _, hp => ⟨hp, h0, Int.le_refl _⟩
  | s :: r, p, h0, hl, hp => by
    rw [List.foldl_cons]
    have hs := hl s (by simp)
    have hq : smallN (fstep may i size p s).1 ∧ 0 ≤ (fstep may i size p s).2 ∧ (fstep may i size p s).2 ≤ p.2 := by
      unfold fstep
      split
      · refine ⟨fun x hx => ?_, by simp only; omega, by simp only; omega⟩
        rcases List.mem_append.1 hx with hx | hx
        · exact hp x hx
        · rw [List.mem_singleton] at hx; subst hx; simp only; omega
      · refine ⟨fun x hx => ?_, h0, Int.le_refl _⟩
        rcases List.mem_append.1 hx with hx | hx
        · exact hp x hx
        · rw [List.mem_singleton] at hx; subst hx; exact hs
    obtain ⟨h1, h2, h3⟩ := fillS_bd (may := may) (i := i) hz r (fstep may i size p s) hq.2.1 (fun x hx => hl x (by simp [hx])) hq.1
    exact ⟨h1, h2, by omega⟩
theorem fillS_n {may : Slot → Bool} {i size : Int} {l : List Slot} {n : Int} (hz : size ≤ 16) (hn : 0 ≤ n) (hl : smallN l) : smallN (fillS may i size l n).1 ∧ 0 ≤ (fillS may i size l n).2 ∧ (fillS may i size l n).2 ≤ n :=
  fillS_bd hz l ([], n) hn hl (by simp [smallN])
theorem elt_app {A B : List Slot} {k : Nat} (h : A.length = k) : elt .slot (A ++ B) k = elt .slot B 0 := by
  unfold elt
  rw [List.getElem?_append_right (by omega), h, Nat.sub_self]
theorem elt_drop {l : List Slot} {k : Nat} : elt .slot (l.drop k) 0 = elt .slot l k := by
  unfold elt
  rw [List.getElem?_drop]; rfl
theorem set_app {A B : List Slot} {k : Nat} {x : Slot} (h : A.length = k) : (A ++ B).set k x = A ++ B.set 0 x := by
  rw [List.set_append_right _ _ (by omega), h, Nat.sub_self]

theorem fstep_hit {may : Slot → Bool} {i size : Int} {P : List Slot} {p : Int} {s : Slot} (h : may s = true) (h2 : 0 < min (size - s.n) p) : fstep may i size (P, p) s = (P ++ [⟨i, s.n + min (size - s.n) p⟩], p - min (size - s.n) p) := by unfold fstep; rw [if_pos ⟨h, h2⟩]
theorem fstep_full {may : Slot → Bool} {i size : Int} {P : List Slot} {p : Int} {s : Slot} (h2 : min (size - s.n) p ≤ 0) : fstep may i size (P, p) s = (P ++ [s], p) := by unfold fstep; rw [if_neg (fun h => by have := h.2; simp only at this; omega)]
theorem fstep_miss {may : Slot → Bool} {i size : Int} {P : List Slot} {p : Int} {s : Slot} (h : may s = false) : fstep may i size (P, p) s = (P ++ [s], p) := by unfold fstep; rw [if_neg (fun h2 => by rw [h] at h2; cases h2.1)]
theorem row_set {tt : Ty} {P l : List (El tt)} {k : Nat} {x : El tt} (hP : P.length = k) (hk : k < l.length) : (P ++ l.drop k).set k x = (P ++ [x]) ++ l.drop (k + 1) := by
  rw [List.set_append_right _ _ (by omega), hP, Nat.sub_self, drop_elt hk, List.set_cons_zero, List.append_assoc]; rfl
theorem row_keep {tt : Ty} {P l : List (El tt)} {k : Nat} (hk : k < l.length) : P ++ l.drop k = (P ++ [elt tt l k]) ++ l.drop (k + 1) := by
  rw [drop_elt hk, List.append_assoc]; rfl
theorem take_all {α : Type} {n : Nat} {l : List α} (h : l.length = n) : l.take n = l := by rw [← h, List.take_length]

set_option maxRecDepth 100000 in
set_option maxHeartbeats 4000000 in
theorem mayI_ev (s : Slot) (i : Int) : Ev1 Try.prog 44 [.agg [.lit (.int .u8 s.item), .lit (.int .i64 s.n)], .ptr 0 0] [(0, .box [.lit (.int .u8 i)])] (bol (mayI i s)) [(0, .box [.lit (.int .u8 i)])] := by
  refine Ev1.of_fin cfg_ok Try.func44 rfl (nt := 6) rfl rfl rfl ?_
  conv => whnf
  repeat' (first
    | exact trivial
    | ((first | refine .inl ⟨in64 (by omega) (by omega), ?_⟩ | refine .inl ⟨inU64 (by omega) (by omega), ?_⟩ | refine .inl ⟨inU8 (by omega) (by omega), ?_⟩); (conv => whnf))
    | ((refine ⟨fun hb => ?_, fun hb => ?_⟩) <;> (try simp only [decide_eq_true_eq, decide_eq_false_iff_not, Int.not_lt, Int.not_le, beq_iff_eq, beq_eq_false_iff_ne, bne_iff_ne, bne_eq_false_iff_eq, ne_eq, Decidable.not_not, Bool.not_eq_true', Bool.not_eq_false', Bool.not_eq_true, Bool.not_eq_false, Int.toNat_natCast, Bool.and_eq_true, Bool.or_eq_true, Bool.and_eq_false_iff, Bool.or_eq_false_iff, List.length_nil, List.length_cons] at hb) <;> (first | (exfalso; omega) | contradiction | (conv => whnf)))
    | ((first | refine Draws.of cfg_ok (by kernel_rfl) ?_ | refine ⟨(by kernel_rfl : confB _ _ _ _ _ = true), ?_⟩ | refine ⟨by (first | omega | (simp only [lens, Int.toNat_natCast, bsz, Nat.zero_mul, Nat.zero_add]; omega)), ?_⟩ | refine .inl ⟨by omega, by omega, ?_⟩ | refine .inr ⟨⟨by (first | omega | (simp only [lens, Int.toNat_natCast, bsz, Nat.zero_mul, Nat.zero_add]; omega)), by (first | omega | (simp only [lens, Int.toNat_natCast, bsz, Nat.zero_mul, Nat.zero_add]; omega))⟩, ?_⟩ | refine .inl ⟨⟨by (first | omega | (simp only [lens, Int.toNat_natCast, bsz, Nat.zero_mul, Nat.zero_add]; omega)), by (first | omega | (simp only [lens, Int.toNat_natCast, bsz, Nat.zero_mul, Nat.zero_add]; omega))⟩, ?_⟩ | refine ⟨rfl, ?_⟩ | refine ⟨congrArg (Value.int _) (by omega), ?_⟩); (conv => whnf))
    | (refine And.intro ?_ ?_; rotate_left; (conv => whnf); rotate_right))
  all_goals rfl
set_option maxRecDepth 100000 in
set_option maxHeartbeats 4000000 in
theorem may0_api (s : Slot) : Api Try.prog 45 [.agg [.lit (.int .u8 s.item), .lit (.int .i64 s.n)]] (bol (may0 s)) := by
  refine Api.of_fin cfg_ok Try.func45 rfl (nt := 5) rfl rfl ?_
  conv => whnf
  repeat' (first
    | exact trivial
    | ((first | refine .inl ⟨in64 (by omega) (by omega), ?_⟩ | refine .inl ⟨inU64 (by omega) (by omega), ?_⟩ | refine .inl ⟨inU8 (by omega) (by omega), ?_⟩); (conv => whnf))
    | ((refine ⟨fun hb => ?_, fun hb => ?_⟩) <;> (try simp only [decide_eq_true_eq, decide_eq_false_iff_not, Int.not_lt, Int.not_le, beq_iff_eq, beq_eq_false_iff_ne, bne_iff_ne, bne_eq_false_iff_eq, ne_eq, Decidable.not_not, Bool.not_eq_true', Bool.not_eq_false', Bool.not_eq_true, Bool.not_eq_false, Int.toNat_natCast, Bool.and_eq_true, Bool.or_eq_true, Bool.and_eq_false_iff, Bool.or_eq_false_iff, List.length_nil, List.length_cons] at hb) <;> (first | (exfalso; omega) | contradiction | (conv => whnf)))
    | ((first | refine Draws.of cfg_ok (by kernel_rfl) ?_ | refine ⟨(by kernel_rfl : confB _ _ _ _ _ = true), ?_⟩ | refine ⟨by (first | omega | (simp only [lens, Int.toNat_natCast, bsz, Nat.zero_mul, Nat.zero_add]; omega)), ?_⟩ | refine .inl ⟨by omega, by omega, ?_⟩ | refine .inr ⟨⟨by (first | omega | (simp only [lens, Int.toNat_natCast, bsz, Nat.zero_mul, Nat.zero_add]; omega)), by (first | omega | (simp only [lens, Int.toNat_natCast, bsz, Nat.zero_mul, Nat.zero_add]; omega))⟩, ?_⟩ | refine .inl ⟨⟨by (first | omega | (simp only [lens, Int.toNat_natCast, bsz, Nat.zero_mul, Nat.zero_add]; omega)), by (first | omega | (simp only [lens, Int.toNat_natCast, bsz, Nat.zero_mul, Nat.zero_add]; omega))⟩, ?_⟩ | refine ⟨rfl, ?_⟩ | refine ⟨congrArg (Value.int _) (by omega), ?_⟩); (conv => whnf))
    | (refine And.intro ?_ ?_; rotate_left; (conv => whnf); rotate_right))
  all_goals rfl

set_option maxRecDepth 100000 in
set_option maxHeartbeats 4000000 in
theorem fill1_ev (l : List (El .slot)) (len : Nat) (i size n : Int) (hlen : len = l.length) (hz0 : 0 ≤ size) (hz : size ≤ 16) (hn : 0 ≤ n) (hn2 : n ≤ 9223372036854775807) (hs : smallN l) (hl : l.length ≤ 9000000000000000000) : Ev1 Try.prog 43 [.clo (.func 44) [] [.ptr 6 0], .ptr 0 0, .ptr 2 0, .ptr 4 0, .ptr 6 0] [(0, .box [.own .slot 1 0 len none]), (2, .box [i64 size]), (4, .box [i64 n]), (6, .box [.lit (.int .u8 i)]), (1, .row .slot l)] (.tup []) [(0, .box [.own .slot 1 0 len none]), (2, .box [i64 size]), (4, .box [i64 (fillS (mayI i) i size l n).2]), (6, .box [.lit (.int .u8 i)]), (1, .row .slot (fillS (mayI i) i size l n).1)] := by
  subst hlen
  refine Ev1.of_fin cfg_ok Try.func43 rfl (nt := 35) rfl rfl rfl ?_
  conv => whnf
  refine Runs.loopS cfg_ok (σ := Nat) [0, 1, 2, 3, 4, 9, 10, 11] (fun k => [.clo (.func 44) [] [.ptr 6 0], .ptr 0 0, .ptr 2 0, .ptr 4 0, .ptr 6 0, .own .slot 1 0 l.length none, i64 l.length, i64 k]) (fun k => [(0, .box [.own .slot 1 0 l.length none]), (2, .box [i64 size]), (4, .box [i64 (fillS (mayI i) i size (l.take k) n).2]), (6, .box [.lit (.int .u8 i)]), (1, .row .slot ((fillS (mayI i) i size (l.take k) n).1 ++ l.drop k))])
    (fun k => k ≤ l.length) (fun k => l.length - k) 0 (by omega) ?_ ?_
  · conv => whnf
    repeat' (first
      | exact trivial
      | ((first | refine .inl ⟨in64 (by omega) (by omega), ?_⟩ | refine .inl ⟨inU64 (by omega) (by omega), ?_⟩ | refine .inl ⟨inU8 (by omega) (by omega), ?_⟩); (conv => whnf))
      | ((refine ⟨fun hb => ?_, fun hb => ?_⟩) <;> (try simp only [decide_eq_true_eq, decide_eq_false_iff_not, Int.not_lt, Int.not_le, beq_iff_eq, beq_eq_false_iff_ne, bne_iff_ne, bne_eq_false_iff_eq, ne_eq, Decidable.not_not, Bool.not_eq_true', Bool.not_eq_false', Bool.not_eq_true, Bool.not_eq_false, Int.toNat_natCast, Bool.and_eq_true, Bool.or_eq_true, Bool.and_eq_false_iff, Bool.or_eq_false_iff, List.length_nil, List.length_cons] at hb) <;> (first | (exfalso; omega) | contradiction | (conv => whnf)))
      | ((first | refine Draws.of cfg_ok (by kernel_rfl) ?_ | refine ⟨(by kernel_rfl : confB _ _ _ _ _ = true), ?_⟩ | refine ⟨by (first | omega | (simp only [lens, Int.toNat_natCast, bsz, Nat.zero_mul, Nat.zero_add]; omega)), ?_⟩ | refine .inl ⟨by omega, by omega, ?_⟩ | refine .inr ⟨⟨by (first | omega | (simp only [lens, Int.toNat_natCast, bsz, Nat.zero_mul, Nat.zero_add]; omega)), by (first | omega | (simp only [lens, Int.toNat_natCast, bsz, Nat.zero_mul, Nat.zero_add]; omega))⟩, ?_⟩ | refine .inl ⟨⟨by (first | omega | (simp only [lens, Int.toNat_natCast, bsz, Nat.zero_mul, Nat.zero_add]; omega)), by (first | omega | (simp only [lens, Int.toNat_natCast, bsz, Nat.zero_mul, Nat.zero_add]; omega))⟩, ?_⟩ | refine ⟨rfl, ?_⟩ | refine ⟨congrArg (Value.int _) (by omega), ?_⟩); (conv => whnf))
      | (refine And.intro ?_ ?_; rotate_left; (conv => whnf); rotate_right))
    all_goals first | rfl | exact List.take_length | exact List.take_length.symm
  · intro k hk
    by_cases hlt : k < l.length
    · have hF := fillS_n (may := mayI i) (i := i) (l := l.take k) hz hn (fun s hs' => hs s (List.mem_of_mem_take hs'))
      have hL := fillS_length (mayI i) i size (l.take k) n
      rw [List.length_take, Nat.min_eq_left hk] at hL
      have hN := fillS_next (may := mayI i) (i := i) (size := size) (n := n) hlt
      have hE := hs _ (elt_mem (t := .slot) hlt)
      generalize fillS (mayI i) i size (l.take k) n = P at *
      obtain ⟨P, p⟩ := P
      dsimp only at *
      obtain ⟨hF0, hp0, hp1⟩ := hF
      have he : elt .slot (P ++ l.drop k) k = elt .slot l k := by rw [elt_app hL, elt_drop]
      have hPl : (P ++ l.drop k).length = l.length := by rw [List.length_append, hL, List.length_drop]; omega
      generalize hR : P ++ l.drop k = R at *
      rw [← he] at hE hN
      have hE2 : (elt .slot R ((k : Int).toNat + 0)).n = (elt .slot R (k + 0)).n ∧ (elt .slot R (k + 0)).n = (elt .slot R k).n := by simp
      conv => whnf
      repeat' (first
        | exact trivial
        | ((first | refine .inl ⟨in64 (by omega) (by omega), ?_⟩ | refine .inl ⟨inU64 (by omega) (by omega), ?_⟩ | refine .inl ⟨inU8 (by omega) (by omega), ?_⟩); (conv => whnf))
        | ((refine ⟨fun hb => ?_, fun hb => ?_⟩) <;> (try simp only [decide_eq_true_eq, decide_eq_false_iff_not, Int.not_lt, Int.not_le, beq_iff_eq, beq_eq_false_iff_ne, bne_iff_ne, bne_eq_false_iff_eq, ne_eq, Decidable.not_not, Bool.not_eq_true', Bool.not_eq_false', Bool.not_eq_true, Bool.not_eq_false, Int.toNat_natCast, Bool.and_eq_true, Bool.or_eq_true, Bool.and_eq_false_iff, Bool.or_eq_false_iff, List.length_nil, List.length_cons] at hb) <;> (first | (exfalso; omega) | contradiction | (conv => whnf)))
        | ((first | (refine isE 44 ?_; refine callEv (mayI_ev (elt .slot R k) i) [(0, 6)] rfl ?_ ?_ ?_) | (refine isD 44 ?_; refine callEvD (mayI_ev (elt .slot R k) i) [(0, 6)] rfl ?_ ?_ ?_)); rotate_left; rotate_left; (conv => whnf); rotate_left; (repeat' (first | exact trivial | (refine ⟨rfl, ?_⟩))); kernel_rfl)
        | ((first | refine Draws.of cfg_ok (by kernel_rfl) ?_ | refine ⟨(by kernel_rfl : confB _ _ _ _ _ = true), ?_⟩ | refine ⟨by (first | omega | (simp only [lens, Int.toNat_natCast, bsz, Nat.zero_mul, Nat.zero_add]; omega)), ?_⟩ | refine .inl ⟨by omega, by omega, ?_⟩ | refine .inr ⟨⟨by (first | omega | (simp only [lens, Int.toNat_natCast, bsz, Nat.zero_mul, Nat.zero_add]; omega)), by (first | omega | (simp only [lens, Int.toNat_natCast, bsz, Nat.zero_mul, Nat.zero_add]; omega))⟩, ?_⟩ | refine .inl ⟨⟨by (first | omega | (simp only [lens, Int.toNat_natCast, bsz, Nat.zero_mul, Nat.zero_add]; omega)), by (first | omega | (simp only [lens, Int.toNat_natCast, bsz, Nat.zero_mul, Nat.zero_add]; omega))⟩, ?_⟩ | refine ⟨rfl, ?_⟩ | refine ⟨congrArg (Value.int _) (by omega), ?_⟩); (conv => whnf))
        | (refine And.intro ?_ ?_; rotate_left; (conv => whnf); rotate_right))
      all_goals
        refine .to (k + 1) hlt (by omega) ?_
        conv => whnf
        repeat' (first
          | exact trivial
          | ((first | refine .inl ⟨in64 (by omega) (by omega), ?_⟩ | refine .inl ⟨inU64 (by omega) (by omega), ?_⟩ | refine .inl ⟨inU8 (by omega) (by omega), ?_⟩); (conv => whnf))
          | ((refine ⟨fun hb => ?_, fun hb => ?_⟩) <;> (try simp only [decide_eq_true_eq, decide_eq_false_iff_not, Int.not_lt, Int.not_le, beq_iff_eq, beq_eq_false_iff_ne, bne_iff_ne, bne_eq_false_iff_eq, ne_eq, Decidable.not_not, Bool.not_eq_true', Bool.not_eq_false', Bool.not_eq_true, Bool.not_eq_false, Int.toNat_natCast, Bool.and_eq_true, Bool.or_eq_true, Bool.and_eq_false_iff, Bool.or_eq_false_iff, List.length_nil, List.length_cons] at hb) <;> (first | (exfalso; omega) | contradiction | (conv => whnf)))
          | ((first | refine Draws.of cfg_ok (by kernel_rfl) ?_ | refine ⟨(by kernel_rfl : confB _ _ _ _ _ = true), ?_⟩ | refine ⟨by (first | omega | (simp only [lens, Int.toNat_natCast, bsz, Nat.zero_mul, Nat.zero_add]; omega)), ?_⟩ | refine .inl ⟨by omega, by omega, ?_⟩ | refine .inr ⟨⟨by (first | omega | (simp only [lens, Int.toNat_natCast, bsz, Nat.zero_mul, Nat.zero_add]; omega)), by (first | omega | (simp only [lens, Int.toNat_natCast, bsz, Nat.zero_mul, Nat.zero_add]; omega))⟩, ?_⟩ | refine .inl ⟨⟨by (first | omega | (simp only [lens, Int.toNat_natCast, bsz, Nat.zero_mul, Nat.zero_add]; omega)), by (first | omega | (simp only [lens, Int.toNat_natCast, bsz, Nat.zero_mul, Nat.zero_add]; omega))⟩, ?_⟩ | refine ⟨rfl, ?_⟩ | refine ⟨congrArg (Value.int _) (by omega), ?_⟩); (conv => whnf))
          | (refine And.intro ?_ ?_; rotate_left; (conv => whnf); rotate_right))
      all_goals (try simp only [Int.toNat_natCast, Nat.add_zero] at *)
      all_goals (have hL1 := fillS_length (mayI i) i size (l.take (k + 1)) n; rw [List.length_take, Nat.min_eq_left (by omega)] at hL1; have hL2 : ((fillS (mayI i) i size (l.take (k + 1)) n).1 ++ l.drop (k + 1)).length = l.length := by rw [List.length_append, hL1, List.length_drop]; omega)
      all_goals (try first | (rw [hL2]; exact Nat.le_refl _) | exact take_all hL2)
      · rw [take_all (by rw [List.length_set, hPl]), hN, fstep_hit (by assumption) hb, ← hR, row_set (tt := .slot) hL hlt]
      · rw [hN, fstep_hit (by assumption) hb]
      · rw [take_all hPl, hN, fstep_full hb, ← hR, elt_app hL, elt_drop]; exact row_keep (tt := .slot) hlt
      · rw [hN, fstep_full hb]
      · rw [take_all hPl, hN, fstep_miss hb, ← hR, elt_app hL, elt_drop]; exact row_keep (tt := .slot) hlt
      · rw [hN, fstep_miss hb]
    · obtain rfl : k = l.length := by omega
      have hL := fillS_length (mayI i) i size l n
      conv => whnf
      repeat' (first
        | exact trivial
        | ((first | refine .inl ⟨in64 (by omega) (by omega), ?_⟩ | refine .inl ⟨inU64 (by omega) (by omega), ?_⟩ | refine .inl ⟨inU8 (by omega) (by omega), ?_⟩); (conv => whnf))
        | ((refine ⟨fun hb => ?_, fun hb => ?_⟩) <;> (try simp only [decide_eq_true_eq, decide_eq_false_iff_not, Int.not_lt, Int.not_le, beq_iff_eq, beq_eq_false_iff_ne, bne_iff_ne, bne_eq_false_iff_eq, ne_eq, Decidable.not_not, Bool.not_eq_true', Bool.not_eq_false', Bool.not_eq_true, Bool.not_eq_false, Int.toNat_natCast, Bool.and_eq_true, Bool.or_eq_true, Bool.and_eq_false_iff, Bool.or_eq_false_iff, List.length_nil, List.length_cons] at hb) <;> (first | (exfalso; omega) | contradiction | (conv => whnf)))
        | ((first | refine Draws.of cfg_ok (by kernel_rfl) ?_ | refine ⟨(by kernel_rfl : confB _ _ _ _ _ = true), ?_⟩ | refine ⟨by (first | omega | (simp only [lens, Int.toNat_natCast, bsz, Nat.zero_mul, Nat.zero_add]; omega)), ?_⟩ | refine .inl ⟨by omega, by omega, ?_⟩ | refine .inr ⟨⟨by (first | omega | (simp only [lens, Int.toNat_natCast, bsz, Nat.zero_mul, Nat.zero_add]; omega)), by (first | omega | (simp only [lens, Int.toNat_natCast, bsz, Nat.zero_mul, Nat.zero_add]; omega))⟩, ?_⟩ | refine .inl ⟨⟨by (first | omega | (simp only [lens, Int.toNat_natCast, bsz, Nat.zero_mul, Nat.zero_add]; omega)), by (first | omega | (simp only [lens, Int.toNat_natCast, bsz, Nat.zero_mul, Nat.zero_add]; omega))⟩, ?_⟩ | refine ⟨rfl, ?_⟩ | refine ⟨congrArg (Value.int _) (by omega), ?_⟩); (conv => whnf))
        | (refine And.intro ?_ ?_; rotate_left; (conv => whnf); rotate_right))
      all_goals simp only [List.take_length, List.drop_length, List.append_nil, hL]
      · exact Nat.le_refl _
      · rw [← hL, List.take_length]

set_option maxRecDepth 100000 in
set_option maxHeartbeats 4000000 in
theorem fill2_ev (l : List (El .slot)) (len : Nat) (i size n : Int) (hlen : len = l.length) (hz0 : 0 ≤ size) (hz : size ≤ 16) (hn : 0 ≤ n) (hn2 : n ≤ 9223372036854775807) (hs : smallN l) (hl : l.length ≤ 9000000000000000000) : Ev1 Try.prog 43 [.lit (.func (.func 45) #[] #[]), .ptr 0 0, .ptr 2 0, .ptr 4 0, .ptr 6 0] [(0, .box [.own .slot 1 0 len none]), (2, .box [i64 size]), (4, .box [i64 n]), (6, .box [.lit (.int .u8 i)]), (1, .row .slot l)] (.tup []) [(0, .box [.own .slot 1 0 len none]), (2, .box [i64 size]), (4, .box [i64 (fillS may0 i size l n).2]), (6, .box [.lit (.int .u8 i)]), (1, .row .slot (fillS may0 i size l n).1)] := by
  subst hlen
  refine Ev1.of_fin cfg_ok Try.func43 rfl (nt := 35) rfl rfl rfl ?_
  conv => whnf
  refine Runs.loopS cfg_ok (σ := Nat) [0, 1, 2, 3, 4, 9, 10, 11] (fun k => [.lit (.func (.func 45) #[] #[]), .ptr 0 0, .ptr 2 0, .ptr 4 0, .ptr 6 0, .own .slot 1 0 l.length none, i64 l.length, i64 k]) (fun k => [(0, .box [.own .slot 1 0 l.length none]), (2, .box [i64 size]), (4, .box [i64 (fillS may0 i size (l.take k) n).2]), (6, .box [.lit (.int .u8 i)]), (1, .row .slot ((fillS may0 i size (l.take k) n).1 ++ l.drop k))])
    (fun k => k ≤ l.length) (fun k => l.length - k) 0 (by omega) ?_ ?_
  · conv => whnf
    repeat' (first
      | exact trivial
      | ((first | refine .inl ⟨in64 (by omega) (by omega), ?_⟩ | refine .inl ⟨inU64 (by omega) (by omega), ?_⟩ | refine .inl ⟨inU8 (by omega) (by omega), ?_⟩); (conv => whnf))
      | ((refine ⟨fun hb => ?_, fun hb => ?_⟩) <;> (try simp only [decide_eq_true_eq, decide_eq_false_iff_not, Int.not_lt, Int.not_le, beq_iff_eq, beq_eq_false_iff_ne, bne_iff_ne, bne_eq_false_iff_eq, ne_eq, Decidable.not_not, Bool.not_eq_true', Bool.not_eq_false', Bool.not_eq_true, Bool.not_eq_false, Int.toNat_natCast, Bool.and_eq_true, Bool.or_eq_true, Bool.and_eq_false_iff, Bool.or_eq_false_iff, List.length_nil, List.length_cons] at hb) <;> (first | (exfalso; omega) | contradiction | (conv => whnf)))
      | ((first | refine Draws.of cfg_ok (by kernel_rfl) ?_ | refine ⟨(by kernel_rfl : confB _ _ _ _ _ = true), ?_⟩ | refine ⟨by (first | omega | (simp only [lens, Int.toNat_natCast, bsz, Nat.zero_mul, Nat.zero_add]; omega)), ?_⟩ | refine .inl ⟨by omega, by omega, ?_⟩ | refine .inr ⟨⟨by (first | omega | (simp only [lens, Int.toNat_natCast, bsz, Nat.zero_mul, Nat.zero_add]; omega)), by (first | omega | (simp only [lens, Int.toNat_natCast, bsz, Nat.zero_mul, Nat.zero_add]; omega))⟩, ?_⟩ | refine .inl ⟨⟨by (first | omega | (simp only [lens, Int.toNat_natCast, bsz, Nat.zero_mul, Nat.zero_add]; omega)), by (first | omega | (simp only [lens, Int.toNat_natCast, bsz, Nat.zero_mul, Nat.zero_add]; omega))⟩, ?_⟩ | refine ⟨rfl, ?_⟩ | refine ⟨congrArg (Value.int _) (by omega), ?_⟩); (conv => whnf))
      | (refine And.intro ?_ ?_; rotate_left; (conv => whnf); rotate_right))
    all_goals first | rfl | exact List.take_length | exact List.take_length.symm
  · intro k hk
    by_cases hlt : k < l.length
    · have hF := fillS_n (may := may0) (i := i) (l := l.take k) hz hn (fun s hs' => hs s (List.mem_of_mem_take hs'))
      have hL := fillS_length may0 i size (l.take k) n
      rw [List.length_take, Nat.min_eq_left hk] at hL
      have hN := fillS_next (may := may0) (i := i) (size := size) (n := n) hlt
      have hE := hs _ (elt_mem (t := .slot) hlt)
      generalize fillS may0 i size (l.take k) n = P at *
      obtain ⟨P, p⟩ := P
      dsimp only at *
      obtain ⟨hF0, hp0, hp1⟩ := hF
      have he : elt .slot (P ++ l.drop k) k = elt .slot l k := by rw [elt_app hL, elt_drop]
      have hPl : (P ++ l.drop k).length = l.length := by rw [List.length_append, hL, List.length_drop]; omega
      generalize hR : P ++ l.drop k = R at *
      rw [← he] at hE hN
      have hE2 : (elt .slot R ((k : Int).toNat + 0)).n = (elt .slot R (k + 0)).n ∧ (elt .slot R (k + 0)).n = (elt .slot R k).n := by simp
      conv => whnf
      repeat' (first
        | exact trivial
        | ((first | refine .inl ⟨in64 (by omega) (by omega), ?_⟩ | refine .inl ⟨inU64 (by omega) (by omega), ?_⟩ | refine .inl ⟨inU8 (by omega) (by omega), ?_⟩); (conv => whnf))
        | ((refine ⟨fun hb => ?_, fun hb => ?_⟩) <;> (try simp only [decide_eq_true_eq, decide_eq_false_iff_not, Int.not_lt, Int.not_le, beq_iff_eq, beq_eq_false_iff_ne, bne_iff_ne, bne_eq_false_iff_eq, ne_eq, Decidable.not_not, Bool.not_eq_true', Bool.not_eq_false', Bool.not_eq_true, Bool.not_eq_false, Int.toNat_natCast, Bool.and_eq_true, Bool.or_eq_true, Bool.and_eq_false_iff, Bool.or_eq_false_iff, List.length_nil, List.length_cons] at hb) <;> (first | (exfalso; omega) | contradiction | (conv => whnf)))
        | ((first | (refine isE 45 ?_; refine callApi (may0_api (elt .slot R k)) rfl rfl ?_) | (refine isD 45 ?_; refine callApiD (may0_api (elt .slot R k)) rfl rfl ?_) | refine Draws.of cfg_ok (by kernel_rfl) ?_ | refine ⟨(by kernel_rfl : confB _ _ _ _ _ = true), ?_⟩ | refine ⟨by (first | omega | (simp only [lens, Int.toNat_natCast, bsz, Nat.zero_mul, Nat.zero_add]; omega)), ?_⟩ | refine .inl ⟨by omega, by omega, ?_⟩ | refine .inr ⟨⟨by (first | omega | (simp only [lens, Int.toNat_natCast, bsz, Nat.zero_mul, Nat.zero_add]; omega)), by (first | omega | (simp only [lens, Int.toNat_natCast, bsz, Nat.zero_mul, Nat.zero_add]; omega))⟩, ?_⟩ | refine .inl ⟨⟨by (first | omega | (simp only [lens, Int.toNat_natCast, bsz, Nat.zero_mul, Nat.zero_add]; omega)), by (first | omega | (simp only [lens, Int.toNat_natCast, bsz, Nat.zero_mul, Nat.zero_add]; omega))⟩, ?_⟩ | refine ⟨rfl, ?_⟩ | refine ⟨congrArg (Value.int _) (by omega), ?_⟩); (conv => whnf))
        | (refine And.intro ?_ ?_; rotate_left; (conv => whnf); rotate_right))
      all_goals
        refine .to (k + 1) hlt (by omega) ?_
        conv => whnf
        repeat' (first
          | exact trivial
          | ((first | refine .inl ⟨in64 (by omega) (by omega), ?_⟩ | refine .inl ⟨inU64 (by omega) (by omega), ?_⟩ | refine .inl ⟨inU8 (by omega) (by omega), ?_⟩); (conv => whnf))
          | ((refine ⟨fun hb => ?_, fun hb => ?_⟩) <;> (try simp only [decide_eq_true_eq, decide_eq_false_iff_not, Int.not_lt, Int.not_le, beq_iff_eq, beq_eq_false_iff_ne, bne_iff_ne, bne_eq_false_iff_eq, ne_eq, Decidable.not_not, Bool.not_eq_true', Bool.not_eq_false', Bool.not_eq_true, Bool.not_eq_false, Int.toNat_natCast, Bool.and_eq_true, Bool.or_eq_true, Bool.and_eq_false_iff, Bool.or_eq_false_iff, List.length_nil, List.length_cons] at hb) <;> (first | (exfalso; omega) | contradiction | (conv => whnf)))
          | ((first | refine Draws.of cfg_ok (by kernel_rfl) ?_ | refine ⟨(by kernel_rfl : confB _ _ _ _ _ = true), ?_⟩ | refine ⟨by (first | omega | (simp only [lens, Int.toNat_natCast, bsz, Nat.zero_mul, Nat.zero_add]; omega)), ?_⟩ | refine .inl ⟨by omega, by omega, ?_⟩ | refine .inr ⟨⟨by (first | omega | (simp only [lens, Int.toNat_natCast, bsz, Nat.zero_mul, Nat.zero_add]; omega)), by (first | omega | (simp only [lens, Int.toNat_natCast, bsz, Nat.zero_mul, Nat.zero_add]; omega))⟩, ?_⟩ | refine .inl ⟨⟨by (first | omega | (simp only [lens, Int.toNat_natCast, bsz, Nat.zero_mul, Nat.zero_add]; omega)), by (first | omega | (simp only [lens, Int.toNat_natCast, bsz, Nat.zero_mul, Nat.zero_add]; omega))⟩, ?_⟩ | refine ⟨rfl, ?_⟩ | refine ⟨congrArg (Value.int _) (by omega), ?_⟩); (conv => whnf))
          | (refine And.intro ?_ ?_; rotate_left; (conv => whnf); rotate_right))
      all_goals (try simp only [Int.toNat_natCast, Nat.add_zero] at *)
      all_goals (have hL1 := fillS_length may0 i size (l.take (k + 1)) n; rw [List.length_take, Nat.min_eq_left (by omega)] at hL1; have hL2 : ((fillS may0 i size (l.take (k + 1)) n).1 ++ l.drop (k + 1)).length = l.length := by rw [List.length_append, hL1, List.length_drop]; omega)
      all_goals (try first | (rw [hL2]; exact Nat.le_refl _) | exact take_all hL2)
      · rw [take_all (by rw [List.length_set, hPl]), hN, fstep_hit (by assumption) hb, ← hR, row_set (tt := .slot) hL hlt]
      · rw [hN, fstep_hit (by assumption) hb]
      · rw [take_all hPl, hN, fstep_full hb, ← hR, elt_app hL, elt_drop]; exact row_keep (tt := .slot) hlt
      · rw [hN, fstep_full hb]
      · rw [take_all hPl, hN, fstep_miss hb, ← hR, elt_app hL, elt_drop]; exact row_keep (tt := .slot) hlt
      · rw [hN, fstep_miss hb]
    · obtain rfl : k = l.length := by omega
      have hL := fillS_length may0 i size l n
      conv => whnf
      repeat' (first
        | exact trivial
        | ((first | refine .inl ⟨in64 (by omega) (by omega), ?_⟩ | refine .inl ⟨inU64 (by omega) (by omega), ?_⟩ | refine .inl ⟨inU8 (by omega) (by omega), ?_⟩); (conv => whnf))
        | ((refine ⟨fun hb => ?_, fun hb => ?_⟩) <;> (try simp only [decide_eq_true_eq, decide_eq_false_iff_not, Int.not_lt, Int.not_le, beq_iff_eq, beq_eq_false_iff_ne, bne_iff_ne, bne_eq_false_iff_eq, ne_eq, Decidable.not_not, Bool.not_eq_true', Bool.not_eq_false', Bool.not_eq_true, Bool.not_eq_false, Int.toNat_natCast, Bool.and_eq_true, Bool.or_eq_true, Bool.and_eq_false_iff, Bool.or_eq_false_iff, List.length_nil, List.length_cons] at hb) <;> (first | (exfalso; omega) | contradiction | (conv => whnf)))
        | ((first | refine Draws.of cfg_ok (by kernel_rfl) ?_ | refine ⟨(by kernel_rfl : confB _ _ _ _ _ = true), ?_⟩ | refine ⟨by (first | omega | (simp only [lens, Int.toNat_natCast, bsz, Nat.zero_mul, Nat.zero_add]; omega)), ?_⟩ | refine .inl ⟨by omega, by omega, ?_⟩ | refine .inr ⟨⟨by (first | omega | (simp only [lens, Int.toNat_natCast, bsz, Nat.zero_mul, Nat.zero_add]; omega)), by (first | omega | (simp only [lens, Int.toNat_natCast, bsz, Nat.zero_mul, Nat.zero_add]; omega))⟩, ?_⟩ | refine .inl ⟨⟨by (first | omega | (simp only [lens, Int.toNat_natCast, bsz, Nat.zero_mul, Nat.zero_add]; omega)), by (first | omega | (simp only [lens, Int.toNat_natCast, bsz, Nat.zero_mul, Nat.zero_add]; omega))⟩, ?_⟩ | refine ⟨rfl, ?_⟩ | refine ⟨congrArg (Value.int _) (by omega), ?_⟩); (conv => whnf))
        | (refine And.intro ?_ ?_; rotate_left; (conv => whnf); rotate_right))
      all_goals simp only [List.take_length, List.drop_length, List.append_nil, hL]
      · exact Nat.le_refl _
      · rw [← hL, List.take_length]


theorem lend1 {P : Program} {fid : FuncId} {tt : Ty} {l : List (El tt)} {n : Nat} {v : AV} (h : Api P fid [.vec tt l] v) (hn : n = l.length) (hv : scalB v = true) : Ev1 P fid [.own tt 1 0 n none] [(1, .row tt l)] v [(1, .row tt l)] := by
  subst hn
  refine Api.lend h ?_ hv
  cases tt <;> (conv => whnf) <;> exact ⟨by omega, by rw [List.drop_zero, List.take_length]; rfl⟩

def putS (l : List Slot) (i n : Int) : List Slot × Int :=
  if n < 1 then (l, 0) else if stackN i = 0 ∨ bagOk l = false then (l, n)
  else fillS may0 i (stackN i) (fillS (mayI i) i (stackN i) l n).1 (fillS (mayI i) i (stackN i) l n).2
theorem stackN_bd (i : Int) : 0 ≤ stackN i ∧ stackN i ≤ 16 := by unfold stackN; (repeat' split) <;> omega
theorem bagOk_small {l : List Slot} (h : bagOk l = true) : smallN l := by
  intro s hs
  have h2 : badSlot s = false := by
    cases hb : badSlot s with
    | false => rfl
    | true => rw [bagOk, List.any_eq_true.2 ⟨s, hs, hb⟩] at h; cases h
  have := (stackN_bd s.item).2
  simp only [badSlot, Bool.and_eq_false_iff, Bool.or_eq_false_iff, Bool.not_eq_false', Bool.and_eq_true, beq_iff_eq, decide_eq_false_iff_not] at h2
  omega

set_option maxRecDepth 100000 in
set_option maxHeartbeats 4000000 in
theorem put_api (l : List (El .slot)) (i n : Int) (hl : l.length * 16 ≤ 140737488355328) (hw : ∀ s ∈ l, okSlot s) (h0 : 0 ≤ i) (h1 : i ≤ 255) (hn : n ≤ 9223372036854775807) : Api Try.prog 27 [.vec .slot l, .lit (.int .u8 i), i64 n] (.tup [.vec .slot (putS l i n).1, i64 (putS l i n).2]) := by
  have hst := stack_api i h0 h1
  have hrt := right_api l (by unfold big; omega) hw
  have hbd := stackN_bd i
  unfold putS
  by_cases hn1 : n < 1
  · rw [if_pos hn1]
    refine Api.of_fin cfg_ok Try.func27 rfl (nt := 31) rfl rfl ?_
    conv => whnf
    repeat' (first
      | exact trivial
      | ((first | refine .inl ⟨in64 (by omega) (by omega), ?_⟩ | refine .inl ⟨inU64 (by omega) (by omega), ?_⟩ | refine .inl ⟨inU8 (by omega) (by omega), ?_⟩); (conv => whnf))
      | ((refine ⟨fun hb => ?_, fun hb => ?_⟩) <;> (try simp only [decide_eq_true_eq, decide_eq_false_iff_not, Int.not_lt, Int.not_le, beq_iff_eq, beq_eq_false_iff_ne, bne_iff_ne, bne_eq_false_iff_eq, ne_eq, Decidable.not_not, Bool.not_eq_true', Bool.not_eq_false', Bool.not_eq_true, Bool.not_eq_false, Int.toNat_natCast, Bool.and_eq_true, Bool.or_eq_true, Bool.and_eq_false_iff, Bool.or_eq_false_iff, List.length_nil, List.length_cons] at hb) <;> (first | (exfalso; omega) | contradiction | (conv => whnf)))
      | ((first | (refine isE 38 ?_; refine callEv (clone_slots l (by omega)) [(390001, 150001)] rfl ?_ ?_ ?_) | (refine isD 38 ?_; refine callEvD (clone_slots l (by omega)) [(390001, 150001)] rfl ?_ ?_ ?_)); rotate_left; rotate_left; (conv => whnf); rotate_left; (repeat' (first | exact trivial | (refine ⟨rfl, ?_⟩))); kernel_rfl)
      | ((first | refine Draws.of cfg_ok (by kernel_rfl) ?_ | refine ⟨(by kernel_rfl : confB _ _ _ _ _ = true), ?_⟩ | refine ⟨by (first | omega | (simp only [lens, Int.toNat_natCast, bsz, Nat.zero_mul, Nat.zero_add]; omega)), ?_⟩ | refine .inl ⟨by omega, by omega, ?_⟩ | refine .inr ⟨⟨by (first | omega | (simp only [lens, Int.toNat_natCast, bsz, Nat.zero_mul, Nat.zero_add]; omega)), by (first | omega | (simp only [lens, Int.toNat_natCast, bsz, Nat.zero_mul, Nat.zero_add]; omega))⟩, ?_⟩ | refine .inl ⟨⟨by (first | omega | (simp only [lens, Int.toNat_natCast, bsz, Nat.zero_mul, Nat.zero_add]; omega)), by (first | omega | (simp only [lens, Int.toNat_natCast, bsz, Nat.zero_mul, Nat.zero_add]; omega))⟩, ?_⟩ | refine ⟨rfl, ?_⟩ | refine ⟨congrArg (Value.int _) (by omega), ?_⟩); (conv => whnf))
      | (refine And.intro ?_ ?_; rotate_left; (conv => whnf); rotate_right))
    all_goals (rw [List.drop_zero]; exact List.take_length)
  · rw [if_neg hn1]
    by_cases hz : stackN i = 0
    · rw [if_pos (.inl hz)]
      refine Api.of_fin cfg_ok Try.func27 rfl (nt := 31) rfl rfl ?_
      conv => whnf
      repeat' (first
        | exact trivial
        | ((first | refine .inl ⟨in64 (by omega) (by omega), ?_⟩ | refine .inl ⟨inU64 (by omega) (by omega), ?_⟩ | refine .inl ⟨inU8 (by omega) (by omega), ?_⟩); (conv => whnf))
        | ((refine ⟨fun hb => ?_, fun hb => ?_⟩) <;> (try simp only [decide_eq_true_eq, decide_eq_false_iff_not, Int.not_lt, Int.not_le, beq_iff_eq, beq_eq_false_iff_ne, bne_iff_ne, bne_eq_false_iff_eq, ne_eq, Decidable.not_not, Bool.not_eq_true', Bool.not_eq_false', Bool.not_eq_true, Bool.not_eq_false, Int.toNat_natCast, Bool.and_eq_true, Bool.or_eq_true, Bool.and_eq_false_iff, Bool.or_eq_false_iff, List.length_nil, List.length_cons] at hb) <;> (first | (exfalso; omega) | contradiction | (conv => whnf)))
        | ((first | (refine isE 38 ?_; refine callEv (clone_slots l (by omega)) [(390001, 150001)] rfl ?_ ?_ ?_) | (refine isD 38 ?_; refine callEvD (clone_slots l (by omega)) [(390001, 150001)] rfl ?_ ?_ ?_)); rotate_left; rotate_left; (conv => whnf); rotate_left; (repeat' (first | exact trivial | (refine ⟨rfl, ?_⟩))); kernel_rfl)
        | ((first | (refine callApi (hst) rfl rfl ?_) | (refine callApiD (hst) rfl rfl ?_) | refine Draws.of cfg_ok (by kernel_rfl) ?_ | refine ⟨(by kernel_rfl : confB _ _ _ _ _ = true), ?_⟩ | refine ⟨by (first | omega | (simp only [lens, Int.toNat_natCast, bsz, Nat.zero_mul, Nat.zero_add]; omega)), ?_⟩ | refine .inl ⟨by omega, by omega, ?_⟩ | refine .inr ⟨⟨by (first | omega | (simp only [lens, Int.toNat_natCast, bsz, Nat.zero_mul, Nat.zero_add]; omega)), by (first | omega | (simp only [lens, Int.toNat_natCast, bsz, Nat.zero_mul, Nat.zero_add]; omega))⟩, ?_⟩ | refine .inl ⟨⟨by (first | omega | (simp only [lens, Int.toNat_natCast, bsz, Nat.zero_mul, Nat.zero_add]; omega)), by (first | omega | (simp only [lens, Int.toNat_natCast, bsz, Nat.zero_mul, Nat.zero_add]; omega))⟩, ?_⟩ | refine ⟨rfl, ?_⟩ | refine ⟨congrArg (Value.int _) (by omega), ?_⟩); (conv => whnf))
        | (refine And.intro ?_ ?_; rotate_left; (conv => whnf); rotate_right))
      all_goals (rw [List.drop_zero]; exact List.take_length)
    · cases hb : bagOk l with
      | false =>
        rw [if_pos (.inr rfl)]
        rw [hb] at hrt
        refine Api.of_fin cfg_ok Try.func27 rfl (nt := 31) rfl rfl ?_
        conv => whnf
        repeat' (first
          | exact trivial
          | ((first | refine .inl ⟨in64 (by omega) (by omega), ?_⟩ | refine .inl ⟨inU64 (by omega) (by omega), ?_⟩ | refine .inl ⟨inU8 (by omega) (by omega), ?_⟩); (conv => whnf))
          | ((refine ⟨fun hb => ?_, fun hb => ?_⟩) <;> (try simp only [decide_eq_true_eq, decide_eq_false_iff_not, Int.not_lt, Int.not_le, beq_iff_eq, beq_eq_false_iff_ne, bne_iff_ne, bne_eq_false_iff_eq, ne_eq, Decidable.not_not, Bool.not_eq_true', Bool.not_eq_false', Bool.not_eq_true, Bool.not_eq_false, Int.toNat_natCast, Bool.and_eq_true, Bool.or_eq_true, Bool.and_eq_false_iff, Bool.or_eq_false_iff, List.length_nil, List.length_cons] at hb) <;> (first | (exfalso; omega) | contradiction | (conv => whnf)))
          | ((first | (refine isE 38 ?_; refine callEv (clone_slots l (by omega)) [(390001, 150001)] rfl ?_ ?_ ?_) | (refine isD 38 ?_; refine callEvD (clone_slots l (by omega)) [(390001, 150001)] rfl ?_ ?_ ?_)); rotate_left; rotate_left; (conv => whnf); rotate_left; (repeat' (first | exact trivial | (refine ⟨rfl, ?_⟩))); kernel_rfl)
          | ((first | (refine callEv (lend1 hrt rfl rfl) [(1, 150001)] rfl ?_ ?_ ?_) | (refine callEvD (lend1 hrt rfl rfl) [(1, 150001)] rfl ?_ ?_ ?_)); rotate_left; rotate_left; (conv => whnf); rotate_left; (repeat' (first | exact trivial | (refine ⟨rfl, ?_⟩))); kernel_rfl)
          | ((first | (refine callApi (hst) rfl rfl ?_) | (refine callApiD (hst) rfl rfl ?_) | refine Draws.of cfg_ok (by kernel_rfl) ?_ | refine ⟨(by kernel_rfl : confB _ _ _ _ _ = true), ?_⟩ | refine ⟨by (first | omega | (simp only [lens, Int.toNat_natCast, bsz, Nat.zero_mul, Nat.zero_add]; omega)), ?_⟩ | refine .inl ⟨by omega, by omega, ?_⟩ | refine .inr ⟨⟨by (first | omega | (simp only [lens, Int.toNat_natCast, bsz, Nat.zero_mul, Nat.zero_add]; omega)), by (first | omega | (simp only [lens, Int.toNat_natCast, bsz, Nat.zero_mul, Nat.zero_add]; omega))⟩, ?_⟩ | refine .inl ⟨⟨by (first | omega | (simp only [lens, Int.toNat_natCast, bsz, Nat.zero_mul, Nat.zero_add]; omega)), by (first | omega | (simp only [lens, Int.toNat_natCast, bsz, Nat.zero_mul, Nat.zero_add]; omega))⟩, ?_⟩ | refine ⟨rfl, ?_⟩ | refine ⟨congrArg (Value.int _) (by omega), ?_⟩); (conv => whnf))
          | (refine And.intro ?_ ?_; rotate_left; (conv => whnf); rotate_right))
        all_goals (rw [List.drop_zero]; exact List.take_length)
      | true =>
        rw [if_neg (by simp [hz])]
        rw [hb] at hrt
        have hsm := bagOk_small hb
        have hF := fillS_n (may := mayI i) (i := i) (l := l) (n := n) hbd.2 (by omega) hsm
        have hL := fillS_length (mayI i) i (stackN i) l n
        have hf1 := fill1_ev l l.length i (stackN i) n rfl hbd.1 hbd.2 (by omega) hn hsm (by omega)
        have hf2 := fill2_ev (fillS (mayI i) i (stackN i) l n).1 l.length i (stackN i) (fillS (mayI i) i (stackN i) l n).2 hL.symm hbd.1 hbd.2 hF.2.1 (by omega) hF.1 (by omega)
        have hL2 := fillS_length may0 i (stackN i) (fillS (mayI i) i (stackN i) l n).1 (fillS (mayI i) i (stackN i) l n).2
        generalize fillS (mayI i) i (stackN i) l n = P at *
        generalize fillS may0 i (stackN i) P.1 P.2 = Q at *
        obtain ⟨P, p⟩ := P
        obtain ⟨Q, q⟩ := Q
        dsimp only at *
        refine Api.of_fin cfg_ok Try.func27 rfl (nt := 31) rfl rfl ?_
        conv => whnf
        repeat' (first
          | exact trivial
          | ((first | refine .inl ⟨in64 (by omega) (by omega), ?_⟩ | refine .inl ⟨inU64 (by omega) (by omega), ?_⟩ | refine .inl ⟨inU8 (by omega) (by omega), ?_⟩); (conv => whnf))
          | ((refine ⟨fun hb => ?_, fun hb => ?_⟩) <;> (try simp only [decide_eq_true_eq, decide_eq_false_iff_not, Int.not_lt, Int.not_le, beq_iff_eq, beq_eq_false_iff_ne, bne_iff_ne, bne_eq_false_iff_eq, ne_eq, Decidable.not_not, Bool.not_eq_true', Bool.not_eq_false', Bool.not_eq_true, Bool.not_eq_false, Int.toNat_natCast, Bool.and_eq_true, Bool.or_eq_true, Bool.and_eq_false_iff, Bool.or_eq_false_iff, List.length_nil, List.length_cons] at hb) <;> (first | (exfalso; omega) | contradiction | (conv => whnf)))
          | ((first | (refine isE 38 ?_; refine callEv (clone_slots l (by omega)) [(390001, 150001)] rfl ?_ ?_ ?_) | (refine isD 38 ?_; refine callEvD (clone_slots l (by omega)) [(390001, 150001)] rfl ?_ ?_ ?_)); rotate_left; rotate_left; (conv => whnf); rotate_left; (repeat' (first | exact trivial | (refine ⟨rfl, ?_⟩))); kernel_rfl)
          | ((first | (refine callEv (lend1 hrt rfl rfl) [(1, 150001)] rfl ?_ ?_ ?_) | (refine callEvD (lend1 hrt rfl rfl) [(1, 150001)] rfl ?_ ?_ ?_)); rotate_left; rotate_left; (conv => whnf); rotate_left; (repeat' (first | exact trivial | (refine ⟨rfl, ?_⟩))); kernel_rfl)
          | ((first | (refine callEv (hf1) [(0, 6), (2, 16), (4, 10), (6, 8), (1, 150001)] rfl ?_ ?_ ?_) | (refine callEvD (hf1) [(0, 6), (2, 16), (4, 10), (6, 8), (1, 150001)] rfl ?_ ?_ ?_)); rotate_left; rotate_left; (conv => whnf); rotate_left; (repeat' (first | exact trivial | (refine ⟨rfl, ?_⟩))); kernel_rfl)
          | ((first | (refine callEv (hf2) [(0, 6), (2, 16), (4, 10), (6, 8), (1, 150001)] rfl ?_ ?_ ?_) | (refine callEvD (hf2) [(0, 6), (2, 16), (4, 10), (6, 8), (1, 150001)] rfl ?_ ?_ ?_)); rotate_left; rotate_left; (conv => whnf); rotate_left; (repeat' (first | exact trivial | (refine ⟨rfl, ?_⟩))); kernel_rfl)
          | ((first | (refine callApi (hst) rfl rfl ?_) | (refine callApiD (hst) rfl rfl ?_) | refine Draws.of cfg_ok (by kernel_rfl) ?_ | refine ⟨(by kernel_rfl : confB _ _ _ _ _ = true), ?_⟩ | refine ⟨by (first | omega | (simp only [lens, Int.toNat_natCast, bsz, Nat.zero_mul, Nat.zero_add]; omega)), ?_⟩ | refine .inl ⟨by omega, by omega, ?_⟩ | refine .inr ⟨⟨by (first | omega | (simp only [lens, Int.toNat_natCast, bsz, Nat.zero_mul, Nat.zero_add]; omega)), by (first | omega | (simp only [lens, Int.toNat_natCast, bsz, Nat.zero_mul, Nat.zero_add]; omega))⟩, ?_⟩ | refine .inl ⟨⟨by (first | omega | (simp only [lens, Int.toNat_natCast, bsz, Nat.zero_mul, Nat.zero_add]; omega)), by (first | omega | (simp only [lens, Int.toNat_natCast, bsz, Nat.zero_mul, Nat.zero_add]; omega))⟩, ?_⟩ | refine ⟨rfl, ?_⟩ | refine ⟨congrArg (Value.int _) (by omega), ?_⟩); (conv => whnf))
          | (refine And.intro ?_ ?_; rotate_left; (conv => whnf); rotate_right))
        all_goals (rw [List.drop_zero]; exact take_all (hL2.trans hL))

theorem fillS_ok {may : Slot → Bool} {i size : Int} (hi : 0 ≤ i ∧ i ≤ 255) : ∀ (l : List Slot) (p : List Slot × Int), (∀ s ∈ l, okSlot s) → (∀ s ∈ p.1, okSlot s) → ∀ s ∈ (l.foldl (fstep may i size) p).1, okSlot s
  | [], p, _, hp => hp
  | s :: r, p, hl, hp => by
    rw [List.foldl_cons]
    refine fillS_ok hi r _ (fun x hx => hl x (by simp [hx])) fun x hx => ?_
    unfold fstep at hx
    split at hx
    · rcases List.mem_append.1 hx with hx | hx
      · exact hp x hx
      · rw [List.mem_singleton] at hx; subst hx; exact hi
    · rcases List.mem_append.1 hx with hx | hx
      · exact hp x hx
      · rw [List.mem_singleton] at hx; subst hx; exact hl x (by simp)
theorem putS_length (l : List Slot) (i n : Int) : (putS l i n).1.length = l.length := by
  unfold putS
  (repeat' split)
  · rfl
  · rfl
  · rw [fillS_length, fillS_length]
theorem putS_ok {l : List Slot} {i n : Int} (hl : ∀ s ∈ l, okSlot s) (hi : 0 ≤ i ∧ i ≤ 255) : ∀ s ∈ (putS l i n).1, okSlot s := by
  unfold putS
  (repeat' split)
  · exact hl
  · exact hl
  · exact fillS_ok hi _ _ (fillS_ok hi _ _ hl (by simp)) (by simp)

def lessS (s : Slot) (n : Int) : Slot := if s.n - n = 0 then ⟨0, 0⟩ else ⟨s.item, s.n - n⟩
theorem elt_set {l : List Slot} {k : Nat} {x : Slot} (h : k < l.length) : elt .slot (l.set k x) k = x := by
  unfold elt
  rw [List.getElem?_set_self h]; rfl
theorem less_one {l : List Slot} {k : Nat} {n : Int} (hk : k < l.length) (hb : (elt .slot (l.set k ⟨(elt .slot l k).item, (elt .slot l k).n - n⟩) k).n = 0) :
    (l.set k ⟨(elt .slot l k).item, (elt .slot l k).n - n⟩).set k ⟨0, 0⟩ = l.set k (lessS (elt .slot l k) n) := by
  rw [elt_set hk] at hb
  simp only at hb
  rw [List.set_set, lessS, if_pos hb]
theorem less_two {l : List Slot} {k : Nat} {n : Int} (hk : k < l.length) (hb : ¬ (elt .slot (l.set k ⟨(elt .slot l k).item, (elt .slot l k).n - n⟩) k).n = 0) :
    l.set k ⟨(elt .slot l k).item, (elt .slot l k).n - n⟩ = l.set k (lessS (elt .slot l k) n) := by
  rw [elt_set hk] at hb
  simp only at hb
  rw [lessS, if_neg hb]
set_option maxRecDepth 100000 in
set_option maxHeartbeats 4000000 in
theorem less_ev (l : List (El .slot)) (len : Nat) (a n : Int) (hlen : len = l.length) (ha : 0 ≤ a) (ha2 : a < l.length) (hn : 0 ≤ (elt .slot l a.toNat).n ∧ (elt .slot l a.toNat).n ≤ 16) (hn1 : 0 ≤ n) (hn2 : n ≤ (elt .slot l a.toNat).n) : Ev1 Try.prog 41 [.own .slot 1 0 len none, i64 a, i64 n] [(1, .row .slot l)] (.tup []) [(1, .row .slot (l.set a.toNat (lessS (elt .slot l a.toNat) n)))] := by
  subst hlen
  have hn3 : (elt .slot l (a.toNat + 0)).n = (elt .slot l a.toNat).n := rfl
  refine Ev1.of_fin cfg_ok Try.func41 rfl (nt := 22) rfl rfl rfl ?_
  conv => whnf
  repeat' (first
    | exact trivial
    | ((first | refine .inl ⟨in64 (by omega) (by omega), ?_⟩ | refine .inl ⟨inU64 (by omega) (by omega), ?_⟩ | refine .inl ⟨inU8 (by omega) (by omega), ?_⟩); (conv => whnf))
    | ((refine ⟨fun hb => ?_, fun hb => ?_⟩) <;> (try simp only [decide_eq_true_eq, decide_eq_false_iff_not, Int.not_lt, Int.not_le, beq_iff_eq, beq_eq_false_iff_ne, bne_iff_ne, bne_eq_false_iff_eq, ne_eq, Decidable.not_not, Bool.not_eq_true', Bool.not_eq_false', Bool.not_eq_true, Bool.not_eq_false, Int.toNat_natCast, Bool.and_eq_true, Bool.or_eq_true, Bool.and_eq_false_iff, Bool.or_eq_false_iff, List.length_nil, List.length_cons] at hb) <;> (first | (exfalso; omega) | contradiction | (conv => whnf)))
    | ((first | refine Draws.of cfg_ok (by kernel_rfl) ?_ | refine ⟨(by kernel_rfl : confB _ _ _ _ _ = true), ?_⟩ | refine ⟨by (first | omega | (simp only [lens, Int.toNat_natCast, bsz, Nat.zero_mul, Nat.zero_add]; omega)), ?_⟩ | refine .inl ⟨by omega, by omega, ?_⟩ | refine .inr ⟨⟨by (first | omega | (simp only [lens, Int.toNat_natCast, bsz, Nat.zero_mul, Nat.zero_add]; omega)), by (first | omega | (simp only [lens, Int.toNat_natCast, bsz, Nat.zero_mul, Nat.zero_add]; omega))⟩, ?_⟩ | refine .inl ⟨⟨by (first | omega | (simp only [lens, Int.toNat_natCast, bsz, Nat.zero_mul, Nat.zero_add]; omega)), by (first | omega | (simp only [lens, Int.toNat_natCast, bsz, Nat.zero_mul, Nat.zero_add]; omega))⟩, ?_⟩ | refine ⟨rfl, ?_⟩ | refine ⟨congrArg (Value.int _) (by omega), ?_⟩); (conv => whnf))
    | (refine And.intro ?_ ?_; rotate_left; (conv => whnf); rotate_right))
  all_goals (simp only [Nat.add_zero] at hb)
  · exact less_one (by omega) hb
  · conv => whnf
    exact congrArg (Blk.row .slot) (less_one (by omega) hb)
  · exact less_two (by omega) hb
  · conv => whnf
    exact congrArg (Blk.row .slot) (less_two (by omega) hb)

def takeS (l : List Slot) (a n : Int) : List Slot × Slot × Int :=
  if a < 0 ∨ (l.length : Int) ≤ a ∨ bagOk l = false then (l, ⟨0, 0⟩, 103) else if n < 1 then (l, ⟨0, 0⟩, 111)
  else if (elt .slot l a.toNat).n < n then (l, ⟨0, 0⟩, 105) else (l.set a.toNat (lessS (elt .slot l a.toNat) n), ⟨(elt .slot l a.toNat).item, n⟩, 0)

set_option maxRecDepth 100000 in
set_option maxHeartbeats 4000000 in
theorem take_api (l : List (El .slot)) (a n : Int) (hl : l.length * 16 ≤ 140737488355328) (hw : ∀ s ∈ l, okSlot s) : Api Try.prog 26 [.vec .slot l, i64 a, i64 n] (.tup [.vec .slot (takeS l a n).1, .agg [.lit (.int .u8 (takeS l a n).2.1.item), .lit (.int .i64 (takeS l a n).2.1.n)], i64 (takeS l a n).2.2]) := by
  have hrt := right_api l (by unfold big; omega) hw
  unfold takeS
  by_cases hr : 0 ≤ a ∧ a < l.length
  · cases hb : bagOk l with
    | false =>
      rw [if_pos (.inr (.inr rfl))]
      rw [hb] at hrt
      refine Api.of_fin cfg_ok Try.func26 rfl (nt := 53) rfl rfl ?_
      conv => whnf
      repeat' (first
        | exact trivial
        | ((first | refine .inl ⟨in64 (by omega) (by omega), ?_⟩ | refine .inl ⟨inU64 (by omega) (by omega), ?_⟩ | refine .inl ⟨inU8 (by omega) (by omega), ?_⟩); (conv => whnf))
        | ((refine ⟨fun hb => ?_, fun hb => ?_⟩) <;> (try simp only [decide_eq_true_eq, decide_eq_false_iff_not, Int.not_lt, Int.not_le, beq_iff_eq, beq_eq_false_iff_ne, bne_iff_ne, bne_eq_false_iff_eq, ne_eq, Decidable.not_not, Bool.not_eq_true', Bool.not_eq_false', Bool.not_eq_true, Bool.not_eq_false, Int.toNat_natCast, Bool.and_eq_true, Bool.or_eq_true, Bool.and_eq_false_iff, Bool.or_eq_false_iff, List.length_nil, List.length_cons] at hb) <;> (first | (exfalso; omega) | contradiction | (conv => whnf)))
        | ((first | (refine isE 38 ?_; refine callEv (clone_slots l (by omega)) [(390001, 150001)] rfl ?_ ?_ ?_) | (refine isD 38 ?_; refine callEvD (clone_slots l (by omega)) [(390001, 150001)] rfl ?_ ?_ ?_)); rotate_left; rotate_left; (conv => whnf); rotate_left; (repeat' (first | exact trivial | (refine ⟨rfl, ?_⟩))); kernel_rfl)
        | ((first | (refine callEv (lend1 hrt rfl rfl) [(1, 150001)] rfl ?_ ?_ ?_) | (refine callEvD (lend1 hrt rfl rfl) [(1, 150001)] rfl ?_ ?_ ?_)); rotate_left; rotate_left; (conv => whnf); rotate_left; (repeat' (first | exact trivial | (refine ⟨rfl, ?_⟩))); kernel_rfl)
        | ((first | refine Draws.of cfg_ok (by kernel_rfl) ?_ | refine ⟨(by kernel_rfl : confB _ _ _ _ _ = true), ?_⟩ | refine ⟨by (first | omega | (simp only [lens, Int.toNat_natCast, bsz, Nat.zero_mul, Nat.zero_add]; omega)), ?_⟩ | refine .inl ⟨by omega, by omega, ?_⟩ | refine .inr ⟨⟨by (first | omega | (simp only [lens, Int.toNat_natCast, bsz, Nat.zero_mul, Nat.zero_add]; omega)), by (first | omega | (simp only [lens, Int.toNat_natCast, bsz, Nat.zero_mul, Nat.zero_add]; omega))⟩, ?_⟩ | refine .inl ⟨⟨by (first | omega | (simp only [lens, Int.toNat_natCast, bsz, Nat.zero_mul, Nat.zero_add]; omega)), by (first | omega | (simp only [lens, Int.toNat_natCast, bsz, Nat.zero_mul, Nat.zero_add]; omega))⟩, ?_⟩ | refine ⟨rfl, ?_⟩ | refine ⟨congrArg (Value.int _) (by omega), ?_⟩); (conv => whnf))
        | (refine And.intro ?_ ?_; rotate_left; (conv => whnf); rotate_right))
      all_goals (rw [List.drop_zero]; exact List.take_length)
    | true =>
      rw [if_neg (by simp; omega)]
      rw [hb] at hrt
      have hsm := bagOk_small hb _ (elt_mem (t := .slot) (l := l) (i := a.toNat) (by omega))
      have hn3 : (elt .slot l (a.toNat + 0)).n = (elt .slot l a.toNat).n := rfl
      by_cases hn1 : n < 1
      · rw [if_pos hn1]
        refine Api.of_fin cfg_ok Try.func26 rfl (nt := 53) rfl rfl ?_
        conv => whnf
        repeat' (first
          | exact trivial
          | ((first | refine .inl ⟨in64 (by omega) (by omega), ?_⟩ | refine .inl ⟨inU64 (by omega) (by omega), ?_⟩ | refine .inl ⟨inU8 (by omega) (by omega), ?_⟩); (conv => whnf))
          | ((refine ⟨fun hb => ?_, fun hb => ?_⟩) <;> (try simp only [decide_eq_true_eq, decide_eq_false_iff_not, Int.not_lt, Int.not_le, beq_iff_eq, beq_eq_false_iff_ne, bne_iff_ne, bne_eq_false_iff_eq, ne_eq, Decidable.not_not, Bool.not_eq_true', Bool.not_eq_false', Bool.not_eq_true, Bool.not_eq_false, Int.toNat_natCast, Bool.and_eq_true, Bool.or_eq_true, Bool.and_eq_false_iff, Bool.or_eq_false_iff, List.length_nil, List.length_cons] at hb) <;> (first | (exfalso; omega) | contradiction | (conv => whnf)))
          | ((first | (refine isE 38 ?_; refine callEv (clone_slots l (by omega)) [(390001, 150001)] rfl ?_ ?_ ?_) | (refine isD 38 ?_; refine callEvD (clone_slots l (by omega)) [(390001, 150001)] rfl ?_ ?_ ?_)); rotate_left; rotate_left; (conv => whnf); rotate_left; (repeat' (first | exact trivial | (refine ⟨rfl, ?_⟩))); kernel_rfl)
          | ((first | (refine callEv (lend1 hrt rfl rfl) [(1, 150001)] rfl ?_ ?_ ?_) | (refine callEvD (lend1 hrt rfl rfl) [(1, 150001)] rfl ?_ ?_ ?_)); rotate_left; rotate_left; (conv => whnf); rotate_left; (repeat' (first | exact trivial | (refine ⟨rfl, ?_⟩))); kernel_rfl)
          | ((first | refine Draws.of cfg_ok (by kernel_rfl) ?_ | refine ⟨(by kernel_rfl : confB _ _ _ _ _ = true), ?_⟩ | refine ⟨by (first | omega | (simp only [lens, Int.toNat_natCast, bsz, Nat.zero_mul, Nat.zero_add]; omega)), ?_⟩ | refine .inl ⟨by omega, by omega, ?_⟩ | refine .inr ⟨⟨by (first | omega | (simp only [lens, Int.toNat_natCast, bsz, Nat.zero_mul, Nat.zero_add]; omega)), by (first | omega | (simp only [lens, Int.toNat_natCast, bsz, Nat.zero_mul, Nat.zero_add]; omega))⟩, ?_⟩ | refine .inl ⟨⟨by (first | omega | (simp only [lens, Int.toNat_natCast, bsz, Nat.zero_mul, Nat.zero_add]; omega)), by (first | omega | (simp only [lens, Int.toNat_natCast, bsz, Nat.zero_mul, Nat.zero_add]; omega))⟩, ?_⟩ | refine ⟨rfl, ?_⟩ | refine ⟨congrArg (Value.int _) (by omega), ?_⟩); (conv => whnf))
          | (refine And.intro ?_ ?_; rotate_left; (conv => whnf); rotate_right))
        all_goals (rw [List.drop_zero]; exact List.take_length)
      · rw [if_neg hn1]
        by_cases hwant : (elt .slot l a.toNat).n < n
        · rw [if_pos hwant]
          refine Api.of_fin cfg_ok Try.func26 rfl (nt := 53) rfl rfl ?_
          conv => whnf
          repeat' (first
            | exact trivial
            | ((first | refine .inl ⟨in64 (by omega) (by omega), ?_⟩ | refine .inl ⟨inU64 (by omega) (by omega), ?_⟩ | refine .inl ⟨inU8 (by omega) (by omega), ?_⟩); (conv => whnf))
            | ((refine ⟨fun hb => ?_, fun hb => ?_⟩) <;> (try simp only [decide_eq_true_eq, decide_eq_false_iff_not, Int.not_lt, Int.not_le, beq_iff_eq, beq_eq_false_iff_ne, bne_iff_ne, bne_eq_false_iff_eq, ne_eq, Decidable.not_not, Bool.not_eq_true', Bool.not_eq_false', Bool.not_eq_true, Bool.not_eq_false, Int.toNat_natCast, Bool.and_eq_true, Bool.or_eq_true, Bool.and_eq_false_iff, Bool.or_eq_false_iff, List.length_nil, List.length_cons] at hb) <;> (first | (exfalso; omega) | contradiction | (conv => whnf)))
            | ((first | (refine isE 38 ?_; refine callEv (clone_slots l (by omega)) [(390001, 150001)] rfl ?_ ?_ ?_) | (refine isD 38 ?_; refine callEvD (clone_slots l (by omega)) [(390001, 150001)] rfl ?_ ?_ ?_)); rotate_left; rotate_left; (conv => whnf); rotate_left; (repeat' (first | exact trivial | (refine ⟨rfl, ?_⟩))); kernel_rfl)
            | ((first | (refine callEv (lend1 hrt rfl rfl) [(1, 150001)] rfl ?_ ?_ ?_) | (refine callEvD (lend1 hrt rfl rfl) [(1, 150001)] rfl ?_ ?_ ?_)); rotate_left; rotate_left; (conv => whnf); rotate_left; (repeat' (first | exact trivial | (refine ⟨rfl, ?_⟩))); kernel_rfl)
            | ((first | refine Draws.of cfg_ok (by kernel_rfl) ?_ | refine ⟨(by kernel_rfl : confB _ _ _ _ _ = true), ?_⟩ | refine ⟨by (first | omega | (simp only [lens, Int.toNat_natCast, bsz, Nat.zero_mul, Nat.zero_add]; omega)), ?_⟩ | refine .inl ⟨by omega, by omega, ?_⟩ | refine .inr ⟨⟨by (first | omega | (simp only [lens, Int.toNat_natCast, bsz, Nat.zero_mul, Nat.zero_add]; omega)), by (first | omega | (simp only [lens, Int.toNat_natCast, bsz, Nat.zero_mul, Nat.zero_add]; omega))⟩, ?_⟩ | refine .inl ⟨⟨by (first | omega | (simp only [lens, Int.toNat_natCast, bsz, Nat.zero_mul, Nat.zero_add]; omega)), by (first | omega | (simp only [lens, Int.toNat_natCast, bsz, Nat.zero_mul, Nat.zero_add]; omega))⟩, ?_⟩ | refine ⟨rfl, ?_⟩ | refine ⟨congrArg (Value.int _) (by omega), ?_⟩); (conv => whnf))
            | (refine And.intro ?_ ?_; rotate_left; (conv => whnf); rotate_right))
          all_goals (rw [List.drop_zero]; exact List.take_length)
        · rw [if_neg hwant]
          have hls := less_ev l l.length a n rfl hr.1 hr.2 hsm (by omega) (by omega)
          refine Api.of_fin cfg_ok Try.func26 rfl (nt := 53) rfl rfl ?_
          conv => whnf
          repeat' (first
            | exact trivial
            | ((first | refine .inl ⟨in64 (by omega) (by omega), ?_⟩ | refine .inl ⟨inU64 (by omega) (by omega), ?_⟩ | refine .inl ⟨inU8 (by omega) (by omega), ?_⟩); (conv => whnf))
            | ((refine ⟨fun hb => ?_, fun hb => ?_⟩) <;> (try simp only [decide_eq_true_eq, decide_eq_false_iff_not, Int.not_lt, Int.not_le, beq_iff_eq, beq_eq_false_iff_ne, bne_iff_ne, bne_eq_false_iff_eq, ne_eq, Decidable.not_not, Bool.not_eq_true', Bool.not_eq_false', Bool.not_eq_true, Bool.not_eq_false, Int.toNat_natCast, Bool.and_eq_true, Bool.or_eq_true, Bool.and_eq_false_iff, Bool.or_eq_false_iff, List.length_nil, List.length_cons] at hb) <;> (first | (exfalso; omega) | contradiction | (conv => whnf)))
            | ((first | (refine isE 38 ?_; refine callEv (clone_slots l (by omega)) [(390001, 150001)] rfl ?_ ?_ ?_) | (refine isD 38 ?_; refine callEvD (clone_slots l (by omega)) [(390001, 150001)] rfl ?_ ?_ ?_)); rotate_left; rotate_left; (conv => whnf); rotate_left; (repeat' (first | exact trivial | (refine ⟨rfl, ?_⟩))); kernel_rfl)
            | ((first | (refine callEv (lend1 hrt rfl rfl) [(1, 150001)] rfl ?_ ?_ ?_) | (refine callEvD (lend1 hrt rfl rfl) [(1, 150001)] rfl ?_ ?_ ?_)); rotate_left; rotate_left; (conv => whnf); rotate_left; (repeat' (first | exact trivial | (refine ⟨rfl, ?_⟩))); kernel_rfl)
            | ((first | (refine callEv (hls) [(1, 150001)] rfl ?_ ?_ ?_) | (refine callEvD (hls) [(1, 150001)] rfl ?_ ?_ ?_)); rotate_left; rotate_left; (conv => whnf); rotate_left; (repeat' (first | exact trivial | (refine ⟨rfl, ?_⟩))); kernel_rfl)
            | ((first | refine Draws.of cfg_ok (by kernel_rfl) ?_ | refine ⟨(by kernel_rfl : confB _ _ _ _ _ = true), ?_⟩ | refine ⟨by (first | omega | (simp only [lens, Int.toNat_natCast, bsz, Nat.zero_mul, Nat.zero_add]; omega)), ?_⟩ | refine .inl ⟨by omega, by omega, ?_⟩ | refine .inr ⟨⟨by (first | omega | (simp only [lens, Int.toNat_natCast, bsz, Nat.zero_mul, Nat.zero_add]; omega)), by (first | omega | (simp only [lens, Int.toNat_natCast, bsz, Nat.zero_mul, Nat.zero_add]; omega))⟩, ?_⟩ | refine .inl ⟨⟨by (first | omega | (simp only [lens, Int.toNat_natCast, bsz, Nat.zero_mul, Nat.zero_add]; omega)), by (first | omega | (simp only [lens, Int.toNat_natCast, bsz, Nat.zero_mul, Nat.zero_add]; omega))⟩, ?_⟩ | refine ⟨rfl, ?_⟩ | refine ⟨congrArg (Value.int _) (by omega), ?_⟩); (conv => whnf))
            | (refine And.intro ?_ ?_; rotate_left; (conv => whnf); rotate_right))
          all_goals (rw [List.drop_zero]; exact take_all (List.length_set ..))
  · rw [if_pos (by omega)]
    refine Api.of_fin cfg_ok Try.func26 rfl (nt := 53) rfl rfl ?_
    conv => whnf
    repeat' (first
      | exact trivial
      | ((first | refine .inl ⟨in64 (by omega) (by omega), ?_⟩ | refine .inl ⟨inU64 (by omega) (by omega), ?_⟩ | refine .inl ⟨inU8 (by omega) (by omega), ?_⟩); (conv => whnf))
      | ((refine ⟨fun hb => ?_, fun hb => ?_⟩) <;> (try simp only [decide_eq_true_eq, decide_eq_false_iff_not, Int.not_lt, Int.not_le, beq_iff_eq, beq_eq_false_iff_ne, bne_iff_ne, bne_eq_false_iff_eq, ne_eq, Decidable.not_not, Bool.not_eq_true', Bool.not_eq_false', Bool.not_eq_true, Bool.not_eq_false, Int.toNat_natCast, Bool.and_eq_true, Bool.or_eq_true, Bool.and_eq_false_iff, Bool.or_eq_false_iff, List.length_nil, List.length_cons] at hb) <;> (first | (exfalso; omega) | contradiction | (conv => whnf)))
      | ((first | (refine isE 38 ?_; refine callEv (clone_slots l (by omega)) [(390001, 150001)] rfl ?_ ?_ ?_) | (refine isD 38 ?_; refine callEvD (clone_slots l (by omega)) [(390001, 150001)] rfl ?_ ?_ ?_)); rotate_left; rotate_left; (conv => whnf); rotate_left; (repeat' (first | exact trivial | (refine ⟨rfl, ?_⟩))); kernel_rfl)
      | ((first | refine Draws.of cfg_ok (by kernel_rfl) ?_ | refine ⟨(by kernel_rfl : confB _ _ _ _ _ = true), ?_⟩ | refine ⟨by (first | omega | (simp only [lens, Int.toNat_natCast, bsz, Nat.zero_mul, Nat.zero_add]; omega)), ?_⟩ | refine .inl ⟨by omega, by omega, ?_⟩ | refine .inr ⟨⟨by (first | omega | (simp only [lens, Int.toNat_natCast, bsz, Nat.zero_mul, Nat.zero_add]; omega)), by (first | omega | (simp only [lens, Int.toNat_natCast, bsz, Nat.zero_mul, Nat.zero_add]; omega))⟩, ?_⟩ | refine .inl ⟨⟨by (first | omega | (simp only [lens, Int.toNat_natCast, bsz, Nat.zero_mul, Nat.zero_add]; omega)), by (first | omega | (simp only [lens, Int.toNat_natCast, bsz, Nat.zero_mul, Nat.zero_add]; omega))⟩, ?_⟩ | refine ⟨rfl, ?_⟩ | refine ⟨congrArg (Value.int _) (by omega), ?_⟩); (conv => whnf))
      | (refine And.intro ?_ ?_; rotate_left; (conv => whnf); rotate_right))
    all_goals (rw [List.drop_zero]; exact List.take_length)

def allGo : List Slot → List Slot → Option (List Slot)
  | [], out => some out
  | s :: r, out => if 0 < (putS out s.item s.n).2 then none else allGo r (putS out s.item s.n).1
def allS (l more : List Slot) : List Slot × Int :=
  if bagOk l = false ∨ bagOk more = false then (l, 103) else match allGo more l with
    | some out => (out, 0)
    | none => (l, 104)

set_option maxRecDepth 100000 in
set_option maxHeartbeats 4000000 in
theorem all_api (l m : List (El .slot)) (hl : l.length * 16 ≤ 140737488355328) (hw : ∀ s ∈ l, okSlot s) (hm : m.length ≤ 9000000000000000000) (hv : ∀ s ∈ m, okSlot s) : Api Try.prog 29 [.vec .slot l, .vec .slot m] (.tup [.vec .slot (allS l m).1, i64 (allS l m).2]) := by
  have hrl := right_api l (by unfold big; omega) hw
  have hrm := right_api m (by unfold big; omega) hv
  unfold allS
  cases hbl : bagOk l with
  | false =>
    rw [if_pos (.inl rfl)]
    rw [hbl] at hrl
    refine Api.of_fin cfg_ok Try.func29 rfl (nt := 40) rfl rfl ?_
    conv => whnf
    repeat' (first
      | exact trivial
      | ((first | refine .inl ⟨in64 (by omega) (by omega), ?_⟩ | refine .inl ⟨inU64 (by omega) (by omega), ?_⟩ | refine .inl ⟨inU8 (by omega) (by omega), ?_⟩); (conv => whnf))
      | ((refine ⟨fun hb => ?_, fun hb => ?_⟩) <;> (try simp only [decide_eq_true_eq, decide_eq_false_iff_not, Int.not_lt, Int.not_le, beq_iff_eq, beq_eq_false_iff_ne, bne_iff_ne, bne_eq_false_iff_eq, ne_eq, Decidable.not_not, Bool.not_eq_true', Bool.not_eq_false', Bool.not_eq_true, Bool.not_eq_false, Int.toNat_natCast, Bool.and_eq_true, Bool.or_eq_true, Bool.and_eq_false_iff, Bool.or_eq_false_iff, List.length_nil, List.length_cons] at hb) <;> (first | (exfalso; omega) | contradiction | (conv => whnf)))
      | ((first | (refine isE 38 ?_; refine callApi (cloneV_slots l (by omega)) rfl rfl ?_) | (refine isD 38 ?_; refine callApiD (cloneV_slots l (by omega)) rfl rfl ?_) | (refine callApi (hrl) rfl rfl ?_) | (refine callApiD (hrl) rfl rfl ?_) | refine Draws.of cfg_ok (by kernel_rfl) ?_ | refine ⟨(by kernel_rfl : confB _ _ _ _ _ = true), ?_⟩ | refine ⟨by (first | omega | (simp only [lens, Int.toNat_natCast, bsz, Nat.zero_mul, Nat.zero_add]; omega)), ?_⟩ | refine .inl ⟨by omega, by omega, ?_⟩ | refine .inr ⟨⟨by (first | omega | (simp only [lens, Int.toNat_natCast, bsz, Nat.zero_mul, Nat.zero_add]; omega)), by (first | omega | (simp only [lens, Int.toNat_natCast, bsz, Nat.zero_mul, Nat.zero_add]; omega))⟩, ?_⟩ | refine .inl ⟨⟨by (first | omega | (simp only [lens, Int.toNat_natCast, bsz, Nat.zero_mul, Nat.zero_add]; omega)), by (first | omega | (simp only [lens, Int.toNat_natCast, bsz, Nat.zero_mul, Nat.zero_add]; omega))⟩, ?_⟩ | refine ⟨rfl, ?_⟩ | refine ⟨congrArg (Value.int _) (by omega), ?_⟩); (conv => whnf))
      | (refine And.intro ?_ ?_; rotate_left; (conv => whnf); rotate_right))
  | true =>
    rw [hbl] at hrl
    cases hbm : bagOk m with
    | false =>
      rw [if_pos (.inr rfl)]
      rw [hbm] at hrm
      refine Api.of_fin cfg_ok Try.func29 rfl (nt := 40) rfl rfl ?_
      conv => whnf
      repeat' (first
        | exact trivial
        | ((first | refine .inl ⟨in64 (by omega) (by omega), ?_⟩ | refine .inl ⟨inU64 (by omega) (by omega), ?_⟩ | refine .inl ⟨inU8 (by omega) (by omega), ?_⟩); (conv => whnf))
        | ((refine ⟨fun hb => ?_, fun hb => ?_⟩) <;> (try simp only [decide_eq_true_eq, decide_eq_false_iff_not, Int.not_lt, Int.not_le, beq_iff_eq, beq_eq_false_iff_ne, bne_iff_ne, bne_eq_false_iff_eq, ne_eq, Decidable.not_not, Bool.not_eq_true', Bool.not_eq_false', Bool.not_eq_true, Bool.not_eq_false, Int.toNat_natCast, Bool.and_eq_true, Bool.or_eq_true, Bool.and_eq_false_iff, Bool.or_eq_false_iff, List.length_nil, List.length_cons] at hb) <;> (first | (exfalso; omega) | contradiction | (conv => whnf)))
        | ((first | (refine isE 38 ?_; refine callApi (cloneV_slots l (by omega)) rfl rfl ?_) | (refine isD 38 ?_; refine callApiD (cloneV_slots l (by omega)) rfl rfl ?_) | (refine callApi (hrl) rfl rfl ?_) | (refine callApiD (hrl) rfl rfl ?_) | (refine callApi (hrm) rfl rfl ?_) | (refine callApiD (hrm) rfl rfl ?_) | refine Draws.of cfg_ok (by kernel_rfl) ?_ | refine ⟨(by kernel_rfl : confB _ _ _ _ _ = true), ?_⟩ | refine ⟨by (first | omega | (simp only [lens, Int.toNat_natCast, bsz, Nat.zero_mul, Nat.zero_add]; omega)), ?_⟩ | refine .inl ⟨by omega, by omega, ?_⟩ | refine .inr ⟨⟨by (first | omega | (simp only [lens, Int.toNat_natCast, bsz, Nat.zero_mul, Nat.zero_add]; omega)), by (first | omega | (simp only [lens, Int.toNat_natCast, bsz, Nat.zero_mul, Nat.zero_add]; omega))⟩, ?_⟩ | refine .inl ⟨⟨by (first | omega | (simp only [lens, Int.toNat_natCast, bsz, Nat.zero_mul, Nat.zero_add]; omega)), by (first | omega | (simp only [lens, Int.toNat_natCast, bsz, Nat.zero_mul, Nat.zero_add]; omega))⟩, ?_⟩ | refine ⟨rfl, ?_⟩ | refine ⟨congrArg (Value.int _) (by omega), ?_⟩); (conv => whnf))
        | (refine And.intro ?_ ?_; rotate_left; (conv => whnf); rotate_right))
    | true =>
      rw [if_neg (by simp)]
      rw [hbm] at hrm
      have hsm := bagOk_small hbm
      refine Api.of_fin cfg_ok Try.func29 rfl (nt := 40) rfl rfl ?_
      conv => whnf
      repeat' (first
        | exact trivial
        | ((first | refine .inl ⟨in64 (by omega) (by omega), ?_⟩ | refine .inl ⟨inU64 (by omega) (by omega), ?_⟩ | refine .inl ⟨inU8 (by omega) (by omega), ?_⟩); (conv => whnf))
        | ((refine ⟨fun hb => ?_, fun hb => ?_⟩) <;> (try simp only [decide_eq_true_eq, decide_eq_false_iff_not, Int.not_lt, Int.not_le, beq_iff_eq, beq_eq_false_iff_ne, bne_iff_ne, bne_eq_false_iff_eq, ne_eq, Decidable.not_not, Bool.not_eq_true', Bool.not_eq_false', Bool.not_eq_true, Bool.not_eq_false, Int.toNat_natCast, Bool.and_eq_true, Bool.or_eq_true, Bool.and_eq_false_iff, Bool.or_eq_false_iff, List.length_nil, List.length_cons] at hb) <;> (first | (exfalso; omega) | contradiction | (conv => whnf)))
        | ((first | (refine isE 38 ?_; refine callApi (cloneV_slots l (by omega)) rfl rfl ?_) | (refine isD 38 ?_; refine callApiD (cloneV_slots l (by omega)) rfl rfl ?_) | (refine callApi (hrl) rfl rfl ?_) | (refine callApiD (hrl) rfl rfl ?_) | (refine callApi (hrm) rfl rfl ?_) | (refine callApiD (hrm) rfl rfl ?_) | refine Draws.of cfg_ok (by kernel_rfl) ?_ | refine ⟨(by kernel_rfl : confB _ _ _ _ _ = true), ?_⟩ | refine ⟨by (first | omega | (simp only [lens, Int.toNat_natCast, bsz, Nat.zero_mul, Nat.zero_add]; omega)), ?_⟩ | refine .inl ⟨by omega, by omega, ?_⟩ | refine .inr ⟨⟨by (first | omega | (simp only [lens, Int.toNat_natCast, bsz, Nat.zero_mul, Nat.zero_add]; omega)), by (first | omega | (simp only [lens, Int.toNat_natCast, bsz, Nat.zero_mul, Nat.zero_add]; omega))⟩, ?_⟩ | refine .inl ⟨⟨by (first | omega | (simp only [lens, Int.toNat_natCast, bsz, Nat.zero_mul, Nat.zero_add]; omega)), by (first | omega | (simp only [lens, Int.toNat_natCast, bsz, Nat.zero_mul, Nat.zero_add]; omega))⟩, ?_⟩ | refine ⟨rfl, ?_⟩ | refine ⟨congrArg (Value.int _) (by omega), ?_⟩); (conv => whnf))
        | (refine And.intro ?_ ?_; rotate_left; (conv => whnf); rotate_right))
      refine Runs.loopS cfg_ok (σ := Nat × List Slot) [0, 6, 21, 22, 23] (fun p => [.vec .slot l, .vec .slot p.2, .vec .slot m, i64 m.length, i64 p.1]) (fun _ => [])
        (fun p => p.1 ≤ m.length ∧ allGo (m.drop p.1) p.2 = allGo m l ∧ p.2.length = l.length ∧ ∀ s ∈ p.2, okSlot s) (fun p => m.length - p.1) (0, l) ⟨by omega, rfl, rfl, hw⟩ ?_ ?_
      · conv => whnf
        repeat' (first
          | exact trivial
          | ((first | refine .inl ⟨in64 (by omega) (by omega), ?_⟩ | refine .inl ⟨inU64 (by omega) (by omega), ?_⟩ | refine .inl ⟨inU8 (by omega) (by omega), ?_⟩); (conv => whnf))
          | ((refine ⟨fun hb => ?_, fun hb => ?_⟩) <;> (try simp only [decide_eq_true_eq, decide_eq_false_iff_not, Int.not_lt, Int.not_le, beq_iff_eq, beq_eq_false_iff_ne, bne_iff_ne, bne_eq_false_iff_eq, ne_eq, Decidable.not_not, Bool.not_eq_true', Bool.not_eq_false', Bool.not_eq_true, Bool.not_eq_false, Int.toNat_natCast, Bool.and_eq_true, Bool.or_eq_true, Bool.and_eq_false_iff, Bool.or_eq_false_iff, List.length_nil, List.length_cons] at hb) <;> (first | (exfalso; omega) | contradiction | (conv => whnf)))
          | ((first | refine Draws.of cfg_ok (by kernel_rfl) ?_ | refine ⟨(by kernel_rfl : confB _ _ _ _ _ = true), ?_⟩ | refine ⟨by (first | omega | (simp only [lens, Int.toNat_natCast, bsz, Nat.zero_mul, Nat.zero_add]; omega)), ?_⟩ | refine .inl ⟨by omega, by omega, ?_⟩ | refine .inr ⟨⟨by (first | omega | (simp only [lens, Int.toNat_natCast, bsz, Nat.zero_mul, Nat.zero_add]; omega)), by (first | omega | (simp only [lens, Int.toNat_natCast, bsz, Nat.zero_mul, Nat.zero_add]; omega))⟩, ?_⟩ | refine .inl ⟨⟨by (first | omega | (simp only [lens, Int.toNat_natCast, bsz, Nat.zero_mul, Nat.zero_add]; omega)), by (first | omega | (simp only [lens, Int.toNat_natCast, bsz, Nat.zero_mul, Nat.zero_add]; omega))⟩, ?_⟩ | refine ⟨rfl, ?_⟩ | refine ⟨congrArg (Value.int _) (by omega), ?_⟩); (conv => whnf))
          | (refine And.intro ?_ ?_; rotate_left; (conv => whnf); rotate_right))
      · rintro ⟨k, out⟩ ⟨hk, hg, hlen, hok⟩
        dsimp only at hk hg hlen hok ⊢
        by_cases hlt : k < m.length
        · rw [drop_elt (t := .slot) hlt] at hg
          simp only [allGo] at hg
          have hE := hsm _ (elt_mem (t := .slot) hlt)
          have hE2 := hv _ (elt_mem (t := .slot) hlt)
          have hput := put_api out (elt .slot m k).item (elt .slot m k).n (by omega) hok hE2.1 hE2.2 (by omega)
          have hpl := putS_length out (elt .slot m k).item (elt .slot m k).n
          have hpo := putS_ok (n := (elt .slot m k).n) hok hE2
          generalize putS out (elt .slot m k).item (elt .slot m k).n = Q at *
          obtain ⟨Q, q⟩ := Q
          dsimp only at *
          conv => whnf
          repeat' (first
            | exact trivial
            | ((first | refine .inl ⟨in64 (by omega) (by omega), ?_⟩ | refine .inl ⟨inU64 (by omega) (by omega), ?_⟩ | refine .inl ⟨inU8 (by omega) (by omega), ?_⟩); (conv => whnf))
            | ((refine ⟨fun hb => ?_, fun hb => ?_⟩) <;> (try simp only [decide_eq_true_eq, decide_eq_false_iff_not, Int.not_lt, Int.not_le, beq_iff_eq, beq_eq_false_iff_ne, bne_iff_ne, bne_eq_false_iff_eq, ne_eq, Decidable.not_not, Bool.not_eq_true', Bool.not_eq_false', Bool.not_eq_true, Bool.not_eq_false, Int.toNat_natCast, Bool.and_eq_true, Bool.or_eq_true, Bool.and_eq_false_iff, Bool.or_eq_false_iff, List.length_nil, List.length_cons] at hb) <;> (first | (exfalso; omega) | contradiction | (conv => whnf)))
            | ((first | (refine callApi (hput) rfl rfl ?_) | (refine callApiD (hput) rfl rfl ?_) | (refine isE 38 ?_; refine callApi (cloneV_slots l (by omega)) rfl rfl ?_) | (refine isD 38 ?_; refine callApiD (cloneV_slots l (by omega)) rfl rfl ?_) | refine Draws.of cfg_ok (by kernel_rfl) ?_ | refine ⟨(by kernel_rfl : confB _ _ _ _ _ = true), ?_⟩ | refine ⟨by (first | omega | (simp only [lens, Int.toNat_natCast, bsz, Nat.zero_mul, Nat.zero_add]; omega)), ?_⟩ | refine .inl ⟨by omega, by omega, ?_⟩ | refine .inr ⟨⟨by (first | omega | (simp only [lens, Int.toNat_natCast, bsz, Nat.zero_mul, Nat.zero_add]; omega)), by (first | omega | (simp only [lens, Int.toNat_natCast, bsz, Nat.zero_mul, Nat.zero_add]; omega))⟩, ?_⟩ | refine .inl ⟨⟨by (first | omega | (simp only [lens, Int.toNat_natCast, bsz, Nat.zero_mul, Nat.zero_add]; omega)), by (first | omega | (simp only [lens, Int.toNat_natCast, bsz, Nat.zero_mul, Nat.zero_add]; omega))⟩, ?_⟩ | refine ⟨rfl, ?_⟩ | refine ⟨congrArg (Value.int _) (by omega), ?_⟩); (conv => whnf))
            | (refine And.intro ?_ ?_; rotate_left; (conv => whnf); rotate_right))
          · rw [if_pos hb] at hg; rw [← hg]
          · rw [if_pos hb] at hg; rw [← hg]
          · rw [if_neg (by omega)] at hg
            refine .to (k + 1, Q) ⟨hlt, hg, hpl.trans hlen, hpo⟩ (by dsimp only; omega) ?_
            conv => whnf
            repeat' (first
              | exact trivial
              | ((first | refine .inl ⟨in64 (by omega) (by omega), ?_⟩ | refine .inl ⟨inU64 (by omega) (by omega), ?_⟩ | refine .inl ⟨inU8 (by omega) (by omega), ?_⟩); (conv => whnf))
              | ((refine ⟨fun hb => ?_, fun hb => ?_⟩) <;> (try simp only [decide_eq_true_eq, decide_eq_false_iff_not, Int.not_lt, Int.not_le, beq_iff_eq, beq_eq_false_iff_ne, bne_iff_ne, bne_eq_false_iff_eq, ne_eq, Decidable.not_not, Bool.not_eq_true', Bool.not_eq_false', Bool.not_eq_true, Bool.not_eq_false, Int.toNat_natCast, Bool.and_eq_true, Bool.or_eq_true, Bool.and_eq_false_iff, Bool.or_eq_false_iff, List.length_nil, List.length_cons] at hb) <;> (first | (exfalso; omega) | contradiction | (conv => whnf)))
              | ((first | refine Draws.of cfg_ok (by kernel_rfl) ?_ | refine ⟨(by kernel_rfl : confB _ _ _ _ _ = true), ?_⟩ | refine ⟨by (first | omega | (simp only [lens, Int.toNat_natCast, bsz, Nat.zero_mul, Nat.zero_add]; omega)), ?_⟩ | refine .inl ⟨by omega, by omega, ?_⟩ | refine .inr ⟨⟨by (first | omega | (simp only [lens, Int.toNat_natCast, bsz, Nat.zero_mul, Nat.zero_add]; omega)), by (first | omega | (simp only [lens, Int.toNat_natCast, bsz, Nat.zero_mul, Nat.zero_add]; omega))⟩, ?_⟩ | refine .inl ⟨⟨by (first | omega | (simp only [lens, Int.toNat_natCast, bsz, Nat.zero_mul, Nat.zero_add]; omega)), by (first | omega | (simp only [lens, Int.toNat_natCast, bsz, Nat.zero_mul, Nat.zero_add]; omega))⟩, ?_⟩ | refine ⟨rfl, ?_⟩ | refine ⟨congrArg (Value.int _) (by omega), ?_⟩); (conv => whnf))
              | (refine And.intro ?_ ?_; rotate_left; (conv => whnf); rotate_right))
        · obtain rfl : k = m.length := by omega
          rw [List.drop_length] at hg
          simp only [allGo] at hg
          conv => whnf
          repeat' (first
            | exact trivial
            | ((first | refine .inl ⟨in64 (by omega) (by omega), ?_⟩ | refine .inl ⟨inU64 (by omega) (by omega), ?_⟩ | refine .inl ⟨inU8 (by omega) (by omega), ?_⟩); (conv => whnf))
            | ((refine ⟨fun hb => ?_, fun hb => ?_⟩) <;> (try simp only [decide_eq_true_eq, decide_eq_false_iff_not, Int.not_lt, Int.not_le, beq_iff_eq, beq_eq_false_iff_ne, bne_iff_ne, bne_eq_false_iff_eq, ne_eq, Decidable.not_not, Bool.not_eq_true', Bool.not_eq_false', Bool.not_eq_true, Bool.not_eq_false, Int.toNat_natCast, Bool.and_eq_true, Bool.or_eq_true, Bool.and_eq_false_iff, Bool.or_eq_false_iff, List.length_nil, List.length_cons] at hb) <;> (first | (exfalso; omega) | contradiction | (conv => whnf)))
            | ((first | refine Draws.of cfg_ok (by kernel_rfl) ?_ | refine ⟨(by kernel_rfl : confB _ _ _ _ _ = true), ?_⟩ | refine ⟨by (first | omega | (simp only [lens, Int.toNat_natCast, bsz, Nat.zero_mul, Nat.zero_add]; omega)), ?_⟩ | refine .inl ⟨by omega, by omega, ?_⟩ | refine .inr ⟨⟨by (first | omega | (simp only [lens, Int.toNat_natCast, bsz, Nat.zero_mul, Nat.zero_add]; omega)), by (first | omega | (simp only [lens, Int.toNat_natCast, bsz, Nat.zero_mul, Nat.zero_add]; omega))⟩, ?_⟩ | refine .inl ⟨⟨by (first | omega | (simp only [lens, Int.toNat_natCast, bsz, Nat.zero_mul, Nat.zero_add]; omega)), by (first | omega | (simp only [lens, Int.toNat_natCast, bsz, Nat.zero_mul, Nat.zero_add]; omega))⟩, ?_⟩ | refine ⟨rfl, ?_⟩ | refine ⟨congrArg (Value.int _) (by omega), ?_⟩); (conv => whnf))
            | (refine And.intro ?_ ?_; rotate_left; (conv => whnf); rotate_right))
          all_goals rw [← hg]

end Go.Proofs.Ytdbnihckckekcaa
