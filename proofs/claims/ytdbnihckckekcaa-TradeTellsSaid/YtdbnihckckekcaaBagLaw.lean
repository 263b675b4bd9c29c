
/- Plain laws of bags: counts, rightness, room. No program in sight. -/
import Derived.Test.YtdbnihckckekcaaBag2
set_option linter.unusedSimpArgs false
set_option linter.unusedVariables false
namespace Go.Proofs.Ytdbnihckckekcaa
open Go Go.RowKit Eng

def cnt (k : Int) (s : Slot) : Int := if ¬ k = 0 ∧ s.item = k then max s.n 0 else 0
def countS : List Slot → Int → Int
  | [], _ => 0
  | s :: r, k => cnt k s + countS r k
theorem countS_app (a b : List Slot) (k : Int) : countS (a ++ b) k = countS a k + countS b k := by
  induction a with
  | nil => simp [countS]
  | cons s r ih => simp only [List.cons_append, countS, ih]; omega
theorem cnt_bd (k : Int) (s : Slot) (h : s.n ≤ 16) : 0 ≤ cnt k s ∧ cnt k s ≤ 16 := by unfold cnt; split <;> omega
theorem countS_bd {l : List Slot} (k : Int) (h : ∀ s ∈ l, s.n ≤ 16) : 0 ≤ countS l k ∧ countS l k ≤ 16 * l.length := by
  induction l with
  | nil => simp [countS]
  | cons s r ih =>
    have := ih fun x hx => h x (by simp [hx])
    have := cnt_bd k s (h s (by simp))
    simp only [countS, List.length_cons]; omega
theorem countS_next {l : List Slot} {k : Nat} (i : Int) (h : k < l.length) : countS (l.take (k + 1)) i = countS (l.take k) i + cnt i (elt .slot l k) := by
  have := elt_get .slot l k h
  rw [List.take_add_one, this, countS_app]
  simp [countS]

def sel (k i x : Int) : Int := if ¬ k = 0 ∧ i = k then x else 0
theorem fstep_count {may : Slot → Bool} {i size k : Int} {p : List Slot × Int} {s : Slot} (h : may s = true → 0 ≤ s.n ∧ cnt k s = sel k i s.n) :
    countS (fstep may i size p s).1 k + sel k i (fstep may i size p s).2 = countS p.1 k + cnt k s + sel k i p.2 := by
  unfold fstep
  split
  · rename_i hc
    obtain ⟨h1, h2⟩ := h hc.1
    rw [countS_app]
    simp only [countS, h2]
    have h3 := hc.2
    generalize min (size - s.n) p.2 = m at *
    have : cnt k ⟨i, s.n + m⟩ = sel k i (s.n + m) := by
      unfold cnt sel
      split
      · simp only; omega
      · rfl
    rw [this]
    unfold sel
    split <;> omega
  · rw [countS_app]; simp only [countS]; omega
theorem fill_count {may : Slot → Bool} {i size k : Int} : ∀ (l : List Slot) (p : List Slot × Int), (∀ s ∈ l, may s = true → 0 ≤ s.n ∧ cnt k s = sel k i s.n) →
    countS (l.foldl (fstep may i size) p).1 k + sel k i (l.foldl (fstep may i size) p).2 = countS p.1 k + countS l k + sel k i p.2
  | [], p, _ => by simp [countS]
  | s :: r, p, h => by
    rw [List.foldl_cons, fill_count r _ fun x hx => h x (by simp [hx]), ]
    have := fstep_count (size := size) (p := p) (h s (by simp))
    simp only [countS]; omega

theorem badSlot_false {s : Slot} : badSlot s = false ↔ (s.item = 0 ∧ s.n = 0) ∨ (1 ≤ s.n ∧ s.n ≤ stackN s.item) := by
  simp only [badSlot, Bool.and_eq_false_iff, Bool.or_eq_false_iff, Bool.not_eq_false', Bool.and_eq_true, beq_iff_eq, decide_eq_false_iff_not]
  omega
theorem bagOk_iff {l : List Slot} : bagOk l = true ↔ ∀ s ∈ l, badSlot s = false := by
  unfold bagOk
  simp
theorem fill_ok {may : Slot → Bool} {i : Int} : ∀ (l : List Slot) (p : List Slot × Int), (∀ s ∈ l, badSlot s = false) → (∀ s ∈ p.1, badSlot s = false) → ∀ s ∈ (l.foldl (fstep may i (stackN i)) p).1, badSlot s = false
  | [], p, _, hp => hp
  | s :: r, p, hl, hp => by
    rw [List.foldl_cons]
    refine fill_ok r _ (fun x hx => hl x (by simp [hx])) fun x hx => ?_
    unfold fstep at hx
    split at hx
    · rename_i hc
      rcases List.mem_append.1 hx with hx | hx
      · exact hp x hx
      · rw [List.mem_singleton] at hx; subst hx
        have := badSlot_false.1 (hl s (by simp))
        have := hc.2
        rw [badSlot_false]; simp only; omega
    · rcases List.mem_append.1 hx with hx | hx
      · exact hp x hx
      · rw [List.mem_singleton] at hx; subst hx; exact hl x (by simp)
theorem putS_bagOk {l : List Slot} {i n : Int} (h : bagOk l = true) : bagOk (putS l i n).1 = true := by
  unfold putS
  (repeat' split)
  · exact h
  · exact h
  · rw [bagOk_iff] at h ⊢
    exact fill_ok _ _ (fill_ok _ _ h (by simp)) (by simp)
theorem putS_left {l : List Slot} {i n : Int} (h0 : 0 ≤ n) : 0 ≤ (putS l i n).2 ∧ (putS l i n).2 ≤ n := by
  unfold putS
  split
  · simp only; omega
  · split
    · simp only; omega
    · rename_i hc
      have hb : bagOk l = true := by cases hb : bagOk l with | true => rfl | false => exact absurd (.inr hb) hc
      have h1 := fillS_n (may := mayI i) (i := i) (l := l) (n := n) (stackN_bd i).2 h0 (bagOk_small hb)
      have h2 := fillS_n (may := may0) (i := i) (l := (fillS (mayI i) i (stackN i) l n).1) (n := (fillS (mayI i) i (stackN i) l n).2) (stackN_bd i).2 h1.2.1 h1.1
      omega
theorem cnt_mayI {i k : Int} {s : Slot} (h : 0 ≤ s.n) (hm : mayI i s = true) : 0 ≤ s.n ∧ cnt k s = sel k i s.n := by
  have : s.item = i := by simpa [mayI] using hm
  refine ⟨h, ?_⟩
  unfold cnt sel
  subst this
  split <;> omega
theorem cnt_may0 {i k : Int} {s : Slot} (hm : may0 s = true) : 0 ≤ s.n ∧ cnt k s = sel k i s.n := by
  have : s.n = 0 := by simpa [may0] using hm
  refine ⟨by omega, ?_⟩
  unfold cnt sel
  rw [this]
  (repeat' split) <;> rfl
/-- What is put is had. -/
theorem putS_count {l : List Slot} {i n : Int} (h0 : 0 ≤ n) (k : Int) : countS (putS l i n).1 k + sel k i (putS l i n).2 = countS l k + sel k i n := by
  unfold putS
  split
  · have : n = 0 := by omega
    subst this; rfl
  · split
    · rfl
    · rename_i hc
      have hb : bagOk l = true := by cases hb : bagOk l with | true => rfl | false => exact absurd (.inr hb) hc
      have hs := bagOk_small hb
      have h1 := fillS_n (may := mayI i) (i := i) (l := l) (n := n) (stackN_bd i).2 h0 hs
      have e1 := fill_count (may := mayI i) (i := i) (size := stackN i) (k := k) l ([], n) fun s hs' hm => cnt_mayI (hs s hs').1 hm
      have e2 := fill_count (may := may0) (i := i) (size := stackN i) (k := k) (fillS (mayI i) i (stackN i) l n).1 ([], (fillS (mayI i) i (stackN i) l n).2) fun s hs' hm => cnt_may0 hm
      change countS (fillS (mayI i) i (stackN i) l n).1 k + sel k i (fillS (mayI i) i (stackN i) l n).2 = _ at e1
      change countS (fillS may0 i (stackN i) (fillS (mayI i) i (stackN i) l n).1 (fillS (mayI i) i (stackN i) l n).2).1 k + sel k i (fillS may0 i (stackN i) (fillS (mayI i) i (stackN i) l n).1 (fillS (mayI i) i (stackN i) l n).2).2 = _ at e2
      simp only [countS] at e1 e2
      omega

theorem allGo_len : ∀ (m l out : List Slot), allGo m l = some out → out.length = l.length
  | [], l, out, h => by simp [allGo] at h; rw [h]
  | s :: r, l, out, h => by
    simp only [allGo] at h
    split at h
    · cases h
    · rw [allGo_len r _ out h, putS_length]
theorem allGo_bagOk : ∀ (m l out : List Slot), bagOk l = true → allGo m l = some out → bagOk out = true
  | [], l, out, hb, h => by simp [allGo] at h; rw [← h]; exact hb
  | s :: r, l, out, hb, h => by
    simp only [allGo] at h
    split at h
    · cases h
    · exact allGo_bagOk r _ out (putS_bagOk hb) h
theorem allGo_count (k : Int) : ∀ (m l out : List Slot), smallN m → allGo m l = some out → countS out k = countS l k + countS m k
  | [], l, out, _, h => by simp [allGo] at h; rw [h]; simp [countS]
  | s :: r, l, out, hm, h => by
    simp only [allGo] at h
    split at h
    · cases h
    · rename_i hp
      have hs := hm s (by simp)
      have e := allGo_count k r _ out (fun x hx => hm x (by simp [hx])) h
      have e2 := putS_count (l := l) (i := s.item) hs.1 k
      have h3 := putS_left (l := l) (i := s.item) hs.1
      have h4 : (putS l s.item s.n).2 = 0 := by omega
      rw [h4] at e2
      simp only [countS]
      have h5 : cnt k s = sel k s.item s.n := by unfold cnt sel; split <;> omega
      have h6 : sel k s.item 0 = 0 := by unfold sel; split <;> rfl
      omega
theorem allS_ok {l m : List Slot} (h : (allS l m).2 = 0) : bagOk l = true ∧ bagOk m = true ∧ allGo m l = some (allS l m).1 := by
  unfold allS at h ⊢
  split at h
  · cases h
  · rename_i hc
    rw [if_neg hc]
    split at h
    · rename_i out ho
      refine ⟨?_, ?_, ?_⟩
      · cases hb : bagOk l with | true => rfl | false => exact absurd (.inl hb) hc
      · cases hb : bagOk m with | true => rfl | false => exact absurd (.inr hb) hc
      · rw [ho]
    · cases h
theorem allS_props {l m : List Slot} (h : (allS l m).2 = 0) : (allS l m).1.length = l.length ∧ bagOk (allS l m).1 = true ∧ ∀ k, countS (allS l m).1 k = countS l k + countS m k := by
  obtain ⟨h1, h2, h3⟩ := allS_ok h
  exact ⟨allGo_len _ _ _ h3, allGo_bagOk _ _ _ h1 h3, fun k => allGo_count k _ _ _ (bagOk_small h2) h3⟩
theorem allS_err (l m : List Slot) (h1 : bagOk l = true) (h2 : bagOk m = true) : (allS l m).2 = 0 ∨ allS l m = (l, 104) := by
  unfold allS
  rw [if_neg (by simp [h1, h2])]
  split
  · exact .inl rfl
  · exact .inr rfl

/-- Room that one slot has. -/
theorem fill_zero {may : Slot → Bool} {i size : Int} : ∀ (l : List Slot) (p : List Slot × Int), 0 ≤ p.2 → (∀ s ∈ l, 0 ≤ s.n) → (∃ s ∈ l, may s = true ∧ p.2 ≤ size - s.n) ∨ p.2 = 0 → (l.foldl (fstep may i size) p).2 = 0
  | [], p, h0, _, h => by
    rcases h with ⟨s, hs, _⟩ | h
    · simp at hs
    · exact h
  | s :: r, p, h0, hn, h => by
    rw [List.foldl_cons]
    have h1 : 0 ≤ (fstep may i size p s).2 ∧ (fstep may i size p s).2 ≤ p.2 := by
      unfold fstep
      split
      · simp only; omega
      · simp only; omega
    refine fill_zero r _ h1.1 (fun x hx => hn x (by simp [hx])) ?_
    rcases h with ⟨x, hx, hm, hle⟩ | h
    · rcases List.mem_cons.1 hx with rfl | hx
      · right
        unfold fstep
        by_cases hp : 0 < p.2
        · rw [if_pos ⟨hm, by omega⟩]; simp only; omega
        · rw [if_neg (fun hc => by have := hc.2; omega)]; simp only; omega
      · exact .inl ⟨x, hx, hm, by omega⟩
    · right; omega
theorem fill_keep {may : Slot → Bool} {i size : Int} : ∀ (l : List Slot) (p : List Slot × Int) (s : Slot), s ∈ p.1 ∨ (s ∈ l ∧ may s = false) → s ∈ (l.foldl (fstep may i size) p).1
  | [], p, s, h => by
    rcases h with h | h
    · exact h
    · simp at h
  | a :: r, p, s, h => by
    rw [List.foldl_cons]
    refine fill_keep r _ s ?_
    rcases h with h | ⟨h, hm⟩
    · left
      unfold fstep
      split <;> simp [h]
    · rcases List.mem_cons.1 h with rfl | h
      · left
        unfold fstep
        rw [if_neg (fun hc => by rw [hm] at hc; cases hc.1)]
        simp
      · exact .inr ⟨h, hm⟩
/-- What was taken out of a slot can be put back. -/
theorem putS_back {l : List Slot} {a : Nat} {n : Int} (hb : bagOk l = true) (ha : a < l.length) (hn : 1 ≤ n) (hn2 : n ≤ (elt .slot l a).n) :
    (putS (l.set a (lessS (elt .slot l a) n)) (elt .slot l a).item n).2 = 0 := by
  have hs := badSlot_false.1 (bagOk_iff.1 hb _ (elt_mem (t := .slot) ha))
  have hz : 1 ≤ stackN (elt .slot l a).item := by omega
  generalize elt .slot l a = s at *
  have hb2 : bagOk (l.set a (lessS s n)) = true := by
    rw [bagOk_iff] at hb ⊢
    intro x hx
    rcases List.mem_or_eq_of_mem_set hx with hx | rfl
    · exact hb x hx
    · rw [badSlot_false]; unfold lessS; split
      · exact .inl ⟨rfl, rfl⟩
      · right; simp only; omega
  have hsm := bagOk_small hb2
  have hmem : lessS s n ∈ l.set a (lessS s n) := List.mem_of_getElem? (List.getElem?_set_self ha)
  unfold putS
  rw [if_neg (by omega), if_neg (by simp [hb2]; omega)]
  have hF := fillS_n (may := mayI s.item) (i := s.item) (l := l.set a (lessS s n)) (n := n) (stackN_bd s.item).2 (by omega) hsm
  by_cases h0 : s.n - n = 0
  · have e : lessS s n = ⟨0, 0⟩ := by unfold lessS; rw [if_pos h0]
    rw [e] at hmem hF ⊢
    have hi0 : ¬ s.item = 0 := by intro h; rw [h] at hz; simp [stackN] at hz
    have hk : (⟨0, 0⟩ : Slot) ∈ (fillS (mayI s.item) s.item (stackN s.item) (l.set a ⟨0, 0⟩) n).1 := fill_keep _ _ _ (.inr ⟨hmem, by simp [mayI]; omega⟩)
    exact fill_zero _ _ hF.2.1 (fun x hx => (hF.1 x hx).1) (.inl ⟨_, hk, by simp [may0], by simp only; omega⟩)
  · have e : lessS s n = ⟨s.item, s.n - n⟩ := by unfold lessS; rw [if_neg h0]
    have h1 : (fillS (mayI s.item) s.item (stackN s.item) (l.set a (lessS s n)) n).2 = 0 :=
      fill_zero _ ([], n) (by simp only; omega) (fun x hx => (hsm x hx).1) (.inl ⟨_, hmem, by rw [e]; simp [mayI], by rw [e]; simp only; omega⟩)
    exact fill_zero _ _ (by simp only; omega) (fun x hx => (hF.1 x hx).1) (.inr h1)
theorem set_count {l : List Slot} {a : Nat} (ha : a < l.length) (x : Slot) (k : Int) : countS (l.set a x) k + cnt k (elt .slot l a) = countS l k + cnt k x := by
  have h1 : l = l.take a ++ elt .slot l a :: l.drop (a + 1) := by rw [← drop_elt (t := .slot) ha, List.take_append_drop]
  have h2 : l.set a x = l.take a ++ x :: l.drop (a + 1) := List.set_eq_take_append_cons_drop.trans (by rw [if_pos ha])
  rw [h2]
  conv => rhs; rw [h1]
  rw [countS_app, countS_app]
  simp only [countS]; omega
theorem take_count {l : List Slot} {a : Nat} {n : Int} (hb : bagOk l = true) (ha : a < l.length) (hn : 1 ≤ n) (hn2 : n ≤ (elt .slot l a).n) (k : Int) :
    countS (l.set a (lessS (elt .slot l a) n)) k + sel k (elt .slot l a).item n = countS l k := by
  have h := set_count ha (lessS (elt .slot l a) n) k
  have : cnt k (elt .slot l a) = cnt k (lessS (elt .slot l a) n) + sel k (elt .slot l a).item n := by
    unfold lessS cnt sel
    split
    · (repeat' split) <;> (try simp only at *) <;> omega
    · (repeat' split) <;> (try simp only at *) <;> omega
  omega
theorem take_bagOk {l : List Slot} {a : Nat} {n : Int} (hb : bagOk l = true) (ha : a < l.length) (hn : 1 ≤ n) (hn2 : n ≤ (elt .slot l a).n) : bagOk (l.set a (lessS (elt .slot l a) n)) = true := by
  have hs := badSlot_false.1 (bagOk_iff.1 hb _ (elt_mem (t := .slot) ha))
  rw [bagOk_iff] at hb ⊢
  intro x hx
  rcases List.mem_or_eq_of_mem_set hx with hx | rfl
  · exact hb x hx
  · rw [badSlot_false]; unfold lessS; split
    · exact .inl ⟨rfl, rfl⟩
    · right; simp only; omega

set_option maxRecDepth 100000 in
set_option maxHeartbeats 4000000 in
theorem count_api (l : List (El .slot)) (i : Int) (h : ∀ s ∈ l, s.n ≤ 16) (hl : l.length ≤ 100000000000000000) : Api Try.prog 21 [.vec .slot l, .lit (.int .u8 i)] (i64 (countS l i)) := by
  refine Api.of_fin cfg_ok Try.func21 rfl (nt := 27) rfl rfl ?_
  conv => whnf
  refine Runs.loopS cfg_ok (σ := Nat) [1, 5, 8, 9, 10] (fun k => [.lit (.int .u8 i), i64 (countS (l.take k) i), .vec .slot l, i64 l.length, i64 k]) (fun _ => []) (fun k => k ≤ l.length) (fun k => l.length - k) 0 (by omega) ?_ ?_
  · conv => whnf
    repeat' (first
      | exact trivial
      | ((first | refine .inl ⟨in64 (by omega) (by omega), ?_⟩ | refine .inl ⟨inU64 (by omega) (by omega), ?_⟩ | refine .inl ⟨inU8 (by omega) (by omega), ?_⟩); (conv => whnf))
      | ((refine ⟨fun hb => ?_, fun hb => ?_⟩) <;> (try simp only [decide_eq_true_eq, decide_eq_false_iff_not, Int.not_lt, Int.not_le, beq_iff_eq, beq_eq_false_iff_ne, bne_iff_ne, bne_eq_false_iff_eq, ne_eq, Decidable.not_not, Bool.not_eq_true', Bool.not_eq_false', Bool.not_eq_true, Bool.not_eq_false, Int.toNat_natCast, Bool.and_eq_true, Bool.or_eq_true, Bool.and_eq_false_iff, Bool.or_eq_false_iff, List.length_nil, List.length_cons] at hb) <;> (first | (exfalso; omega) | contradiction | exact Bool.noConfusion (show true = false from hb.symm.trans (by assumption)) | exact Bool.noConfusion (show false = true from hb.symm.trans (by assumption)) | (conv => whnf)))
      | ((first | refine Draws.of cfg_ok (by kernel_rfl) ?_ | refine ⟨(by kernel_rfl : confB _ _ _ _ _ = true), ?_⟩ | refine ⟨by (first | omega | (simp only [lens, Int.toNat_natCast, bsz, Nat.zero_mul, Nat.zero_add]; omega)), ?_⟩ | refine .inl ⟨by omega, by omega, ?_⟩ | refine .inr ⟨⟨by (first | omega | (simp only [lens, Int.toNat_natCast, bsz, Nat.zero_mul, Nat.zero_add]; omega)), by (first | omega | (simp only [lens, Int.toNat_natCast, bsz, Nat.zero_mul, Nat.zero_add]; omega))⟩, ?_⟩ | refine .inl ⟨⟨by (first | omega | (simp only [lens, Int.toNat_natCast, bsz, Nat.zero_mul, Nat.zero_add]; omega)), by (first | omega | (simp only [lens, Int.toNat_natCast, bsz, Nat.zero_mul, Nat.zero_add]; omega))⟩, ?_⟩ | refine ⟨rfl, ?_⟩ | refine ⟨congrArg (Value.int _) (by omega), ?_⟩); (conv => whnf))
      | (refine And.intro ?_ ?_; rotate_left; (conv => whnf); rotate_right))
    all_goals trace_state
  · intro k hk
    by_cases hlt : k < l.length
    · have hb1 := countS_bd i (fun s hs => h s (List.mem_of_mem_take hs) : ∀ s ∈ l.take k, s.n ≤ 16)
      rw [List.length_take] at hb1
      have hb2 := h _ (elt_mem (t := .slot) hlt)
      have hb3 : (elt .slot l (k : Int).toNat).n = (elt .slot l k).n := rfl
      have hN := countS_next i hlt
      have hN2 : cnt i (elt .slot l k) = if ¬ i = 0 ∧ (elt .slot l k).item = i then max (elt .slot l k).n 0 else 0 := rfl
      conv => whnf
      repeat' (first
        | exact trivial
        | ((first | refine .inl ⟨in64 (by omega) (by omega), ?_⟩ | refine .inl ⟨inU64 (by omega) (by omega), ?_⟩ | refine .inl ⟨inU8 (by omega) (by omega), ?_⟩); (conv => whnf))
        | ((refine ⟨fun hb => ?_, fun hb => ?_⟩) <;> (try simp only [decide_eq_true_eq, decide_eq_false_iff_not, Int.not_lt, Int.not_le, beq_iff_eq, beq_eq_false_iff_ne, bne_iff_ne, bne_eq_false_iff_eq, ne_eq, Decidable.not_not, Bool.not_eq_true', Bool.not_eq_false', Bool.not_eq_true, Bool.not_eq_false, Int.toNat_natCast, Bool.and_eq_true, Bool.or_eq_true, Bool.and_eq_false_iff, Bool.or_eq_false_iff, List.length_nil, List.length_cons] at hb) <;> (first | (exfalso; omega) | contradiction | exact Bool.noConfusion (show true = false from hb.symm.trans (by assumption)) | exact Bool.noConfusion (show false = true from hb.symm.trans (by assumption)) | (conv => whnf)))
        | ((first | refine Draws.of cfg_ok (by kernel_rfl) ?_ | refine ⟨(by kernel_rfl : confB _ _ _ _ _ = true), ?_⟩ | refine ⟨by (first | omega | (simp only [lens, Int.toNat_natCast, bsz, Nat.zero_mul, Nat.zero_add]; omega)), ?_⟩ | refine .inl ⟨by omega, by omega, ?_⟩ | refine .inr ⟨⟨by (first | omega | (simp only [lens, Int.toNat_natCast, bsz, Nat.zero_mul, Nat.zero_add]; omega)), by (first | omega | (simp only [lens, Int.toNat_natCast, bsz, Nat.zero_mul, Nat.zero_add]; omega))⟩, ?_⟩ | refine .inl ⟨⟨by (first | omega | (simp only [lens, Int.toNat_natCast, bsz, Nat.zero_mul, Nat.zero_add]; omega)), by (first | omega | (simp only [lens, Int.toNat_natCast, bsz, Nat.zero_mul, Nat.zero_add]; omega))⟩, ?_⟩ | refine ⟨rfl, ?_⟩ | refine ⟨congrArg (Value.int _) (by omega), ?_⟩); (conv => whnf))
        | (refine And.intro ?_ ?_; rotate_left; (conv => whnf); rotate_right))
      all_goals
        refine .to (k + 1) hlt (by omega) ?_
        conv => whnf
        repeat' (first
          | exact trivial
          | ((first | refine .inl ⟨in64 (by omega) (by omega), ?_⟩ | refine .inl ⟨inU64 (by omega) (by omega), ?_⟩ | refine .inl ⟨inU8 (by omega) (by omega), ?_⟩); (conv => whnf))
          | ((refine ⟨fun hb => ?_, fun hb => ?_⟩) <;> (try simp only [decide_eq_true_eq, decide_eq_false_iff_not, Int.not_lt, Int.not_le, beq_iff_eq, beq_eq_false_iff_ne, bne_iff_ne, bne_eq_false_iff_eq, ne_eq, Decidable.not_not, Bool.not_eq_true', Bool.not_eq_false', Bool.not_eq_true, Bool.not_eq_false, Int.toNat_natCast, Bool.and_eq_true, Bool.or_eq_true, Bool.and_eq_false_iff, Bool.or_eq_false_iff, List.length_nil, List.length_cons] at hb) <;> (first | (exfalso; omega) | contradiction | exact Bool.noConfusion (show true = false from hb.symm.trans (by assumption)) | exact Bool.noConfusion (show false = true from hb.symm.trans (by assumption)) | (conv => whnf)))
          | ((first | refine Draws.of cfg_ok (by kernel_rfl) ?_ | refine ⟨(by kernel_rfl : confB _ _ _ _ _ = true), ?_⟩ | refine ⟨by (first | omega | (simp only [lens, Int.toNat_natCast, bsz, Nat.zero_mul, Nat.zero_add]; omega)), ?_⟩ | refine .inl ⟨by omega, by omega, ?_⟩ | refine .inr ⟨⟨by (first | omega | (simp only [lens, Int.toNat_natCast, bsz, Nat.zero_mul, Nat.zero_add]; omega)), by (first | omega | (simp only [lens, Int.toNat_natCast, bsz, Nat.zero_mul, Nat.zero_add]; omega))⟩, ?_⟩ | refine .inl ⟨⟨by (first | omega | (simp only [lens, Int.toNat_natCast, bsz, Nat.zero_mul, Nat.zero_add]; omega)), by (first | omega | (simp only [lens, Int.toNat_natCast, bsz, Nat.zero_mul, Nat.zero_add]; omega))⟩, ?_⟩ | refine ⟨rfl, ?_⟩ | refine ⟨congrArg (Value.int _) (by omega), ?_⟩); (conv => whnf))
          | (refine And.intro ?_ ?_; rotate_left; (conv => whnf); rotate_right))
      all_goals trace_state
    · obtain rfl : k = l.length := by omega
      conv => whnf
      repeat' (first
        | exact trivial
        | ((first | refine .inl ⟨in64 (by omega) (by omega), ?_⟩ | refine .inl ⟨inU64 (by omega) (by omega), ?_⟩ | refine .inl ⟨inU8 (by omega) (by omega), ?_⟩); (conv => whnf))
        | ((refine ⟨fun hb => ?_, fun hb => ?_⟩) <;> (try simp only [decide_eq_true_eq, decide_eq_false_iff_not, Int.not_lt, Int.not_le, beq_iff_eq, beq_eq_false_iff_ne, bne_iff_ne, bne_eq_false_iff_eq, ne_eq, Decidable.not_not, Bool.not_eq_true', Bool.not_eq_false', Bool.not_eq_true, Bool.not_eq_false, Int.toNat_natCast, Bool.and_eq_true, Bool.or_eq_true, Bool.and_eq_false_iff, Bool.or_eq_false_iff, List.length_nil, List.length_cons] at hb) <;> (first | (exfalso; omega) | contradiction | exact Bool.noConfusion (show true = false from hb.symm.trans (by assumption)) | exact Bool.noConfusion (show false = true from hb.symm.trans (by assumption)) | (conv => whnf)))
        | ((first | refine Draws.of cfg_ok (by kernel_rfl) ?_ | refine ⟨(by kernel_rfl : confB _ _ _ _ _ = true), ?_⟩ | refine ⟨by (first | omega | (simp only [lens, Int.toNat_natCast, bsz, Nat.zero_mul, Nat.zero_add]; omega)), ?_⟩ | refine .inl ⟨by omega, by omega, ?_⟩ | refine .inr ⟨⟨by (first | omega | (simp only [lens, Int.toNat_natCast, bsz, Nat.zero_mul, Nat.zero_add]; omega)), by (first | omega | (simp only [lens, Int.toNat_natCast, bsz, Nat.zero_mul, Nat.zero_add]; omega))⟩, ?_⟩ | refine .inl ⟨⟨by (first | omega | (simp only [lens, Int.toNat_natCast, bsz, Nat.zero_mul, Nat.zero_add]; omega)), by (first | omega | (simp only [lens, Int.toNat_natCast, bsz, Nat.zero_mul, Nat.zero_add]; omega))⟩, ?_⟩ | refine ⟨rfl, ?_⟩ | refine ⟨congrArg (Value.int _) (by omega), ?_⟩); (conv => whnf))
        | (refine And.intro ?_ ?_; rotate_left; (conv => whnf); rotate_right))
      all_goals rw [List.take_length]

end Go.Proofs.Ytdbnihckckekcaa
