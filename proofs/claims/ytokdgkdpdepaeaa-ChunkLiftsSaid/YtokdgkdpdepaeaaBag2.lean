
/- bag.Put, Take, All, Count. -/
import Derived.Test.YtokdgkdpdepaeaaLib2
import Derived.Test.YtokdgkdpdepaeaaGive
set_option linter.unusedSimpArgs false
set_option linter.unusedVariables false
namespace Go.Proofs.Ytokdgkdpdepaeaa
open Go Go.RowKit Eng

def mayI (i : Int) (s : Slot) : Bool := s.item == i
def may0 (s : Slot) : Bool := s.n == 0
def fstep (may : Slot → Bool) (i size : Int) (p : List Slot × Int) (s : Slot) : List Slot × Int :=
  if may s = true ∧ 0 < min (size - s.n) p.2 then (p.1 ++ [⟨i, s.n + min (size - s.n) p.2⟩], p.2 - min (size - s.n) p.2) else (p.1 ++ [s], p.2)
def fillS (may : Slot → Bool) (i size : Int) (l : List Slot) (n : Int) : List Slot × Int := l.foldl (fstep may i size) ([], n)
theorem fillS_next {may : Slot → Bool} {i size : Int} {l : List Slot} {n : Int} {k : Nat} (h : k < l.length) : fillS may i size (l.take (k + 1)) n = fstep may i size (fillS may i size (l.take k) n) (elt .slot l k) := by
  have := elt_get .slot l k h
  unfold fillS
  rw [List.take_add_one, this]
  simp
theorem fillS_len {may : Slot → Bool} {i size : Int} : ∀ (l : List Slot) (p : List Slot × Int), (l.foldl (fstep may i size) p).1.length = p.1.length + l.length
  | [], p => by simp
  | s :: r, p => by
    rw [List.foldl_cons, fillS_len r]
    unfold fstep
    split <;> simp <;> omega
theorem fillS_length (may : Slot → Bool) (i size : Int) (l : List Slot) (n : Int) : (fillS may i size l n).1.length = l.length := by
  have := fillS_len (may := may) (i := i) (size := size) l ([], n)
  simpa [fillS] using this
def smallN (l : List Slot) : Prop := ∀ s ∈ l, 0 ≤ s.n ∧ s.n ≤ 16
theorem fillS_bd {may : Slot → Bool} {i size : Int} (hz : size ≤ 16) : ∀ (l : List Slot) (p : List Slot × Int), 0 ≤ p.2 → smallN l → smallN p.1 → smallN (l.foldl (fstep may i size) p).1 ∧ 0 ≤ (l.foldl (fstep may i size) p).2 ∧ (l.foldl (fstep may i size) p).2 ≤ p.2
  | [], p, h0, _, hp => ⟨hp, h0, Int.le_refl _⟩
  | s :: r, p, h0, hl, hp => by
    rw [List.foldl_cons]
    have hs := hl s (by simp)
    have hq : smallN (fstep may i size p s).1 ∧ 0 ≤ (fstep may i size p s).2 ∧ (fstep may i size p s).2 ≤ p.2 := by
      unfold fstep
      split
      · refine ⟨fun x hx => ?_, by simp only; omega, by simp only; omega⟩
        rcases List.mem_append.1 hx with hx | hx
        · exact hp x hx
        · rw [List.mem_singleton] at hx; subst hx; simp only; omega
      · refine ⟨fun x hx => ?_, h0, Int.le_refl _⟩
        rcases List.mem_append.1 hx with hx | hx
        · exact hp x hx
        · rw [List.mem_singleton] at hx; subst hx; exact hs
    obtain ⟨h1, h2, h3⟩ := fillS_bd (may := may) (i := i) hz r (fstep may i size p s) hq.2.1 (fun x hx => hl x (by simp [hx])) hq.1
    exact ⟨h1, h2, by omega⟩
theorem fillS_n {may : Slot → Bool} {i size : Int} {l : List Slot} {n : Int} (hz : size ≤ 16) (hn : 0 ≤ n) (hl : smallN l) : smallN (fillS may i size l n).1 ∧ 0 ≤ (fillS may i size l n).2 ∧ (fillS may i size l n).2 ≤ n :=
  fillS_bd hz l ([], n) hn hl (by simp [smallN])
theorem elt_app {A B : List Slot} {k : Nat} (h : A.length = k) : elt .slot (A ++ B) k = elt .slot B 0 := by
  unfold elt
  rw [List.getElem?_append_right (by omega), h, Nat.sub_self]
theorem elt_drop {l : List Slot} {k : Nat} : elt .slot (l.drop k) 0 = elt .slot l k := by
  unfold elt
  rw [List.getElem?_drop]; rfl
theorem set_app {A B : List Slot} {k : Nat} {x : Slot} (h : A.length = k) : (A ++ B).set k x = A ++ B.set 0 x := by
  rw [List.set_append_right _ _ (by omega), h, Nat.sub_self]

theorem fstep_hit {may : Slot → Bool} {i size : Int} {P : List Slot} {p : Int} {s : Slot} (h : may s = true) (h2 : 0 < min (size - s.n) p) : fstep may i size (P, p) s = (P ++ [⟨i, s.n + min (size - s.n) p⟩], p - min (size - s.n) p) := by unfold fstep; rw [if_pos ⟨h, h2⟩]
theorem fstep_full {may : Slot → Bool} {i size : Int} {P : List Slot} {p : Int} {s : Slot} (h2 : min (size - s.n) p ≤ 0) : fstep may i size (P, p) s = (P ++ [s], p) := by unfold fstep; rw [if_neg (fun h => by have := h.2; simp only at this; omega)]
theorem fstep_miss {may : Slot → Bool} {i size : Int} {P : List Slot} {p : Int} {s : Slot} (h : may s = false) : fstep may i size (P, p) s = (P ++ [s], p) := by unfold fstep; rw [if_neg (fun h2 => by rw [h] at h2; cases h2.1)]
theorem row_set {tt : Ty} {P l : List (El tt)} {k : Nat} {x : El tt} (hP : P.length = k) (hk : k < l.length) : (P ++ l.drop k).set k x = (P ++ [x]) ++ l.drop (k + 1) := by
  rw [List.set_append_right _ _ (by omega), hP, Nat.sub_self, drop_elt hk, List.set_cons_zero, List.append_assoc]; rfl
theorem row_keep {tt : Ty} {P l : List (El tt)} {k : Nat} (hk : k < l.length) : P ++ l.drop k = (P ++ [elt tt l k]) ++ l.drop (k + 1) := by
  rw [drop_elt hk, List.append_assoc]; rfl
theorem take_all {α : Type} {n : Nat} {l : List α} (h : l.length = n) : l.take n = l := by rw [← h, List.take_length]

theorem lend1 {P : Program} {fid : FuncId} {tt : Ty} {l : List (El tt)} {n : Nat} {v : AV} (h : Api P fid [.vec tt l] v) (hn : n = l.length) (hv : scalB v = true) : Ev1 P fid [.own tt 1 0 n none] [(1, .row tt l)] v [(1, .row tt l)] := by
  subst hn
  refine Api.lend h ?_ hv
  cases tt <;> (conv => whnf) <;> exact ⟨by omega, by rw [List.drop_zero, List.take_length]; rfl⟩

def putS (l : List Slot) (i n : Int) : List Slot × Int :=
  if n < 1 then (l, 0) else if stackN i = 0 ∨ bagOk l = false then (l, n)
  else fillS may0 i (stackN i) (fillS (mayI i) i (stackN i) l n).1 (fillS (mayI i) i (stackN i) l n).2
theorem stackN_bd (i : Int) : 0 ≤ stackN i ∧ stackN i ≤ 16 := by unfold stackN; (repeat' split) <;> omega
theorem bagOk_small {l : List Slot} (h : bagOk l = true) : smallN l := by
  intro s hs
  have h2 : badSlot s = false := by
    cases hb : badSlot s with
    | false => rfl
    | true => rw [bagOk, List.any_eq_true.2 ⟨s, hs, hb⟩] at h; cases h
  have := (stackN_bd s.item).2
  simp only [badSlot, Bool.and_eq_false_iff, Bool.or_eq_false_iff, Bool.not_eq_false', Bool.and_eq_true, beq_iff_eq, decide_eq_false_iff_not] at h2
  omega

theorem fillS_ok {may : Slot → Bool} {i size : Int} (hi : 0 ≤ i ∧ i ≤ 255) : ∀ (l : List Slot) (p : List Slot × Int), (∀ s ∈ l, okSlot s) → (∀ s ∈ p.1, okSlot s) → ∀ s ∈ (l.foldl (fstep may i size) p).1, okSlot s
  | [], p, _, hp => hp
  | s :: r, p, hl, hp => by
    rw [List.foldl_cons]
    refine fillS_ok hi r _ (fun x hx => hl x (by simp [hx])) fun x hx => ?_
    unfold fstep at hx
    split at hx
    · rcases List.mem_append.1 hx with hx | hx
      · exact hp x hx
      · rw [List.mem_singleton] at hx; subst hx; exact hi
    · rcases List.mem_append.1 hx with hx | hx
      · exact hp x hx
      · rw [List.mem_singleton] at hx; subst hx; exact hl x (by simp)
theorem putS_length (l : List Slot) (i n : Int) : (putS l i n).1.length = l.length := by
  unfold putS
  (repeat' split)
  · rfl
  · rfl
  · rw [fillS_length, fillS_length]
theorem putS_ok {l : List Slot} {i n : Int} (hl : ∀ s ∈ l, okSlot s) (hi : 0 ≤ i ∧ i ≤ 255) : ∀ s ∈ (putS l i n).1, okSlot s := by
  unfold putS
  (repeat' split)
  · exact hl
  · exact hl
  · exact fillS_ok hi _ _ (fillS_ok hi _ _ hl (by simp)) (by simp)

def lessS (s : Slot) (n : Int) : Slot := if s.n - n = 0 then ⟨0, 0⟩ else ⟨s.item, s.n - n⟩
theorem elt_set {l : List Slot} {k : Nat} {x : Slot} (h : k < l.length) : elt .slot (l.set k x) k = x := by
  unfold elt
  rw [List.getElem?_set_self h]; rfl
theorem less_one {l : List Slot} {k : Nat} {n : Int} (hk : k < l.length) (hb : (elt .slot (l.set k ⟨(elt .slot l k).item, (elt .slot l k).n - n⟩) k).n = 0) :
    (l.set k ⟨(elt .slot l k).item, (elt .slot l k).n - n⟩).set k ⟨0, 0⟩ = l.set k (lessS (elt .slot l k) n) := by
  rw [elt_set hk] at hb
  simp only at hb
  rw [List.set_set, lessS, if_pos hb]
theorem less_two {l : List Slot} {k : Nat} {n : Int} (hk : k < l.length) (hb : ¬ (elt .slot (l.set k ⟨(elt .slot l k).item, (elt .slot l k).n - n⟩) k).n = 0) :
    l.set k ⟨(elt .slot l k).item, (elt .slot l k).n - n⟩ = l.set k (lessS (elt .slot l k) n) := by
  rw [elt_set hk] at hb
  simp only at hb
  rw [lessS, if_neg hb]
def takeS (l : List Slot) (a n : Int) : List Slot × Slot × Int :=
  if a < 0 ∨ (l.length : Int) ≤ a ∨ bagOk l = false then (l, ⟨0, 0⟩, 103) else if n < 1 then (l, ⟨0, 0⟩, 111)
  else if (elt .slot l a.toNat).n < n then (l, ⟨0, 0⟩, 105) else (l.set a.toNat (lessS (elt .slot l a.toNat) n), ⟨(elt .slot l a.toNat).item, n⟩, 0)

def allGo : List Slot → List Slot → Option (List Slot)
  | [], out => some out
  | s :: r, out => if 0 < (putS out s.item s.n).2 then none else allGo r (putS out s.item s.n).1
def allS (l more : List Slot) : List Slot × Int :=
  if bagOk l = false ∨ bagOk more = false then (l, 103) else match allGo more l with
    | some out => (out, 0)
    | none => (l, 104)

end Go.Proofs.Ytokdgkdpdepaeaa
