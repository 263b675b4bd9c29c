
/- Plain laws of a chunk's boxes: a rising list of boxes as a table by cells; what a right chunk is; what comes of Set and Fill. No program in sight. -/
import Derived.Test.YtokdgkdpdepaeaaBox
set_option linter.unusedSimpArgs false
set_option linter.unusedVariables false
namespace Go.Proofs.Ytokdgkdpdepaeaa
open Go Go.RowKit Eng

/-- The bag that stands at a cell. -/
def getB : List Box → Int → Option (List Slot)
  | [], _ => none
  | b :: r, t => if b.cell = t then some b.bag else getB r t
theorem getB_none {l : List Box} {t : Int} : getB l t = none ↔ ∀ b ∈ l, b.cell ≠ t := by
  induction l with
  | nil => simp [getB]
  | cons b r ih =>
    simp only [getB, List.mem_cons, forall_eq_or_imp]
    split
    · rename_i h; simp [h]
    · rename_i h; rw [ih]; exact ⟨fun h2 => ⟨h, h2⟩, fun h2 => h2.2⟩
theorem getB_mem {l : List Box} {t : Int} {s : List Slot} (h : getB l t = some s) : ∃ b ∈ l, b.cell = t ∧ b.bag = s := by
  induction l with
  | nil => simp [getB] at h
  | cons b r ih =>
    simp only [getB] at h
    split at h
    · rename_i hb; exact ⟨b, by simp, hb, by simpa using h⟩
    · obtain ⟨b', h1, h2⟩ := ih h; exact ⟨b', by simp [h1], h2⟩
theorem getB_of_mem {l : List Box} (h : rises l) {b : Box} (hb : b ∈ l) : getB l b.cell = some b.bag := by
  induction l with
  | nil => simp at hb
  | cons a r ih =>
    simp only [getB]
    rcases List.mem_cons.1 hb with rfl | hb
    · simp
    · have := h.1 b hb
      rw [if_neg (by omega)]; exact ih h.2 hb
/-- Two rising lists with the same bags are one. -/
theorem rises_ext : ∀ {l l' : List Box}, rises l → rises l' → (∀ t, getB l t = getB l' t) → l = l'
  | [], [], _, _, _ => rfl
  | [], b :: r, _, _, h => by have := h b.cell; simp [getB] at this
  | b :: r, [], _, _, h => by have := h b.cell; simp [getB] at this
  | b :: r, b' :: r', h1, h2, h => by
    have hb := h b.cell
    simp only [getB, if_true] at hb
    have hb' := h b'.cell
    simp only [getB, if_true] at hb'
    have e : b.cell = b'.cell := by
      by_cases he : b'.cell = b.cell
      · exact he.symm
      · rw [if_neg he] at hb
        rw [if_neg (fun e => he e.symm)] at hb'
        obtain ⟨x, hx, hxe, _⟩ := getB_mem hb.symm
        obtain ⟨y, hy, hye, _⟩ := getB_mem hb'
        have := h2.1 x hx
        have := h1.1 y hy
        omega
    rw [if_pos e.symm] at hb
    have eb : b = b' := by
      cases b; cases b'; simp only [Option.some.injEq] at hb e ⊢
      simp only [Box.mk.injEq]; exact ⟨e, hb⟩
    subst eb
    rw [rises_ext (l := r) (l' := r') h1.2 h2.2 fun t => ?_]
    have ht := h t
    simp only [getB] at ht
    split at ht
    · rename_i hbt
      have n1 : getB r t = none := getB_none.2 fun x hx => by have := h1.1 x hx; omega
      have n2 : getB r' t = none := getB_none.2 fun x hx => by have := h2.1 x hx; omega
      rw [n1, n2]
    · exact ht

/-- Which box, by its place. -/
theorem there_get {l : List Box} (h : rises l) (t : Int) : thereB l t = true → getB l t = some (elt .box l (lb t l)).bag := by
  intro ht
  obtain ⟨hlt, hce⟩ := thereB_lt ht
  have := getB_of_mem h (elt_mem (t := .box) hlt)
  rw [hce] at this; exact this
theorem there_none {l : List Box} (h : rises l) (t : Int) : thereB l t = false → getB l t = none := by
  intro ht
  rw [getB_none]
  intro b hb he
  obtain ⟨i, hi, rfl⟩ := List.mem_iff_getElem.1 hb
  have hel : elt .box l i = l[i] := by have := elt_get .box l i hi; rw [List.getElem?_eq_getElem hi] at this; exact (Option.some.inj this).symm
  have hlb : lb t l = i := lb_eq (by omega) (fun k hk => by have := rises_lt h hk hi; rw [hel, he] at this; exact this) (fun _ => by rw [hel, he]; exact Int.le_refl _)
  have : thereB l t = true := by simp only [thereB, hlb, hel, he, Bool.and_eq_true, decide_eq_true_eq, beq_self_eq_true, and_true]; exact hi
  rw [this] at ht; cases ht
theorem there_iff {l : List Box} (h : rises l) (t : Int) : thereB l t = (getB l t).isSome := by
  cases ht : thereB l t with
  | true => rw [there_get h t ht]; rfl
  | false => rw [there_none h t ht]; rfl

/-- Without a cell's box. -/
def delR (t : Int) : List Box → List Box
  | [] => []
  | b :: r => if b.cell < t then b :: delR t r else if b.cell = t then r else b :: r
theorem thereB_cons (b : Box) (r : List Box) (t : Int) : thereB (b :: r) t = if b.cell < t then thereB r t else decide (b.cell = t) := by
  unfold thereB
  simp only [lb]
  split
  · rw [elt_cons]; simp
  · rw [elt_zero, Bool.eq_iff_iff]; simp
theorem delB_eq (t : Int) : ∀ l : List Box, delB l t = delR t l
  | [] => rfl
  | b :: r => by
    have ih := delB_eq t r
    unfold delB at ih ⊢
    rw [thereB_cons]
    simp only [lb, delR]
    split
    · rename_i hb
      rw [← ih]
      split
      · simp
      · rfl
    · rename_i hb
      by_cases he : b.cell = t
      · simp [he]
      · simp [he]
theorem delR_mem {t : Int} : ∀ {l : List Box} {x : Box}, x ∈ delR t l → x ∈ l
  | [], x, h => by simp [delR] at h
  | b :: r, x, h => by
    simp only [delR] at h
    split at h
    · rcases List.mem_cons.1 h with rfl | h
      · simp
      · simp [delR_mem h]
    · split at h
      · simp [h]
      · exact h
theorem rises_delR {t : Int} : ∀ {l : List Box}, rises l → rises (delR t l)
  | [], _ => trivial
  | b :: r, h => by
    simp only [delR]
    split
    · exact ⟨fun x hx => h.1 x (delR_mem hx), rises_delR h.2⟩
    · split
      · exact h.2
      · exact h
theorem getB_delR {t u : Int} : ∀ {l : List Box}, rises l → getB (delR t l) u = if u = t then none else getB l u
  | [], _ => by simp [delR, getB]
  | b :: r, h => by
    have ih := getB_delR (t := t) (u := u) h.2
    simp only [delR]
    split
    · rename_i hb
      simp only [getB, ih]
      split
      · rename_i hbu; rw [if_neg (by omega)]
      · rfl
    · split
      · rename_i hbe
        by_cases hu : u = t
        · rw [if_pos hu, getB_none]; intro x hx; have := h.1 x hx; omega
        · rw [if_neg hu]; simp only [getB]; rw [if_neg (by omega)]
      · rename_i hbt hbe
        by_cases hu : u = t
        · rw [if_pos hu, getB_none]
          intro x hx
          rcases List.mem_cons.1 hx with rfl | hx
          · omega
          · have := h.1 x hx; omega
        · rw [if_neg hu]
/-- With a box more. -/
def insR (x : Box) : List Box → List Box
  | [] => [x]
  | b :: r => if b.cell < x.cell then b :: insR x r else x :: b :: r
theorem ins_eq (x : Box) : ∀ l : List Box, l.take (lb x.cell l) ++ x :: l.drop (lb x.cell l) = insR x l
  | [] => rfl
  | b :: r => by
    simp only [lb, insR]
    split
    · rw [← ins_eq x r]; rfl
    · rfl
theorem lb_delR (t : Int) : ∀ l : List Box, rises l → lb t (delR t l) = lb t l
  | [], _ => rfl
  | b :: r, h => by
    simp only [delR]
    split
    · rename_i hb; simp only [lb, if_pos hb]; rw [lb_delR t r h.2]
    · rename_i hb
      split
      · rename_i he
        simp only [lb, if_neg hb]
        cases r with
        | nil => rfl
        | cons a r => simp only [lb]; have := h.1 a (by simp); rw [if_neg (by omega)]
      · rfl
theorem insR_mem {x : Box} : ∀ {l : List Box} {y : Box}, y ∈ insR x l → y = x ∨ y ∈ l
  | [], y, h => by simp [insR] at h; exact .inl h
  | b :: r, y, h => by
    simp only [insR] at h
    split at h
    · rcases List.mem_cons.1 h with rfl | h
      · simp
      · rcases insR_mem h with h | h
        · exact .inl h
        · simp [h]
    · rcases List.mem_cons.1 h with rfl | h
      · exact .inl rfl
      · exact .inr h
theorem rises_insR {x : Box} : ∀ {l : List Box}, rises l → getB l x.cell = none → rises (insR x l)
  | [], _, _ => ⟨by simp, trivial⟩
  | b :: r, h, hn => by
    have hn' := getB_none.1 hn
    simp only [insR]
    split
    · rename_i hb
      refine ⟨fun y hy => ?_, rises_insR h.2 (getB_none.2 fun y hy => hn' y (by simp [hy]))⟩
      rcases insR_mem hy with rfl | hy
      · exact hb
      · exact h.1 y hy
    · rename_i hb
      have h0 := hn' b (by simp)
      refine ⟨fun y hy => ?_, h⟩
      rcases List.mem_cons.1 hy with rfl | hy
      · omega
      · have := h.1 y hy; omega
theorem getB_insR {x : Box} {u : Int} : ∀ {l : List Box}, getB l x.cell = none → getB (insR x l) u = if u = x.cell then some x.bag else getB l u
  | [], _ => by simp only [insR, getB]; by_cases h : u = x.cell <;> simp [h]; exact fun e => absurd e.symm h
  | b :: r, hn => by
    have hn' := getB_none.1 hn
    have h0 := hn' b (by simp)
    have ih := getB_insR (x := x) (u := u) (l := r) (getB_none.2 fun y hy => hn' y (by simp [hy]))
    simp only [insR]
    split
    · simp only [getB, ih]
      by_cases hbu : b.cell = u
      · rw [if_pos hbu, if_pos hbu, if_neg (by omega)]
      · rw [if_neg hbu, if_neg hbu]
    · simp only [getB]
      by_cases hu : u = x.cell
      · rw [if_pos hu.symm, if_pos hu]
      · rw [if_neg (fun e => hu e.symm), if_neg hu]
theorem putB_eq {l : List Box} (h : rises l) (t i : Int) : putB l t i = if i = 9 then insR ⟨t, newBag⟩ (delR t l) else delR t l := by
  unfold putB
  rw [delB_eq]
  have e := ins_eq ⟨t, newBag⟩ (delR t l)
  simp only at e
  rw [lb_delR t l h] at e
  rw [e]
theorem rises_putB {l : List Box} (h : rises l) (t i : Int) : rises (putB l t i) := by
  rw [putB_eq h]
  split
  · exact rises_insR (rises_delR h) (by rw [getB_delR h]; simp)
  · exact rises_delR h
theorem getB_putB {l : List Box} (h : rises l) (t i u : Int) : getB (putB l t i) u = if u = t then (if i = 9 then some newBag else none) else getB l u := by
  rw [putB_eq h]
  split
  · rw [getB_insR (by rw [getB_delR h]; simp), getB_delR h]
    split <;> simp_all
  · rw [getB_delR h]
theorem putB_mem {l : List Box} (h : rises l) {t i : Int} {x : Box} (hx : x ∈ putB l t i) : x ∈ l ∨ (i = 9 ∧ x = ⟨t, newBag⟩) := by
  rw [putB_eq h] at hx
  split at hx
  · rename_i h9
    rcases insR_mem hx with rfl | hx
    · exact .inr ⟨h9, rfl⟩
    · exact .inl (delR_mem hx)
  · exact .inl (delR_mem hx)
/-- Another bag at a cell. -/
theorem upd_eq (x : Box) : ∀ (l : List Box), rises l → thereB l x.cell = true → l.set (lb x.cell l) x = insR x (delR x.cell l)
  | [], _, h => by simp [thereB] at h
  | b :: r, hr, h => by
    rw [thereB_cons] at h
    simp only [lb, delR]
    split
    · rename_i hb
      rw [if_pos hb] at h
      simp only [List.set_cons_succ, insR, if_pos hb]
      rw [upd_eq x r hr.2 h]
    · rename_i hb
      rw [if_neg hb] at h
      have he : b.cell = x.cell := by simpa using h
      rw [if_pos he, List.set_cons_zero]
      cases r with
      | nil => rfl
      | cons a r => have := hr.1 a (by simp); simp only [insR]; rw [if_neg (by omega)]
def updB (l : List Box) (t : Int) (s : List Slot) : List Box := l.set (lb t l) ⟨t, s⟩
theorem rises_updB {l : List Box} (h : rises l) {t : Int} {s : List Slot} (ht : thereB l t = true) : rises (updB l t s) := by
  unfold updB
  rw [upd_eq ⟨t, s⟩ l h ht]
  exact rises_insR (rises_delR h) (by rw [getB_delR h]; simp)
theorem getB_updB {l : List Box} (h : rises l) {t : Int} {s : List Slot} (ht : thereB l t = true) (u : Int) : getB (updB l t s) u = if u = t then some s else getB l u := by
  unfold updB
  rw [upd_eq ⟨t, s⟩ l h ht, getB_insR (by rw [getB_delR h]; simp), getB_delR h]
  split <;> simp_all

/-- A box's bag is right. -/
def bagR (s : List Slot) : Bool := decide ((s.length : Int) = 6) && bagOk s
theorem bagR_new : bagR newBag = true := by decide
/-- WHAT MAKES CELLS AND BOXES FIT. -/
structure Fits (l : List Int) (k : Nat) (bs : List Box) : Prop where
  items : ∀ i ∈ l, itemOk i = true
  up : rises bs
  bags : ∀ b ∈ bs, (k : Int) ≤ b.cell ∧ b.cell < k + l.length ∧ bagR b.bag = true
  chest : ∀ j < l.length, (l.getD j 0 = 9 ↔ (getB bs ((k : Int) + j)).isSome = true)

theorem fits_iff : ∀ (l : List Int) (k : Nat) (bs : List Box), rightGo l k bs = some [] ↔ Fits l k bs
  | [], k, bs => by
    simp only [rightGo, Option.some.injEq]
    constructor
    · rintro rfl; exact ⟨by simp, trivial, by simp, by simp⟩
    · intro h
      cases bs with
      | nil => rfl
      | cons b bs => have := h.bags b (by simp); simp only [List.length_nil] at this; omega
  | i :: r, k, bs => by
    simp only [rightGo]
    by_cases hi : itemOk i = true
    · rw [if_pos hi]
      by_cases h9 : i = 9
      · rw [if_pos h9]
        cases bs with
        | nil =>
          simp only [reduceCtorEq, false_iff]
          intro h
          have := (h.chest 0 (by simp)).1 (by simpa using h9)
          simp [getB] at this
        | cons b bs =>
          simp only
          by_cases hb : boxAt b k = true
          · rw [if_pos hb, fits_iff r (k + 1) bs]
            simp only [boxAt, Bool.and_eq_true, beq_iff_eq] at hb
            have hbg : bagR b.bag = true := by unfold bagR; rw [hb.2.1, hb.2.2]; rfl
            constructor
            · intro h
              refine ⟨fun x hx => ?_, ⟨fun x hx => ?_, h.up⟩, fun x hx => ?_, fun j hj => ?_⟩
              · rcases List.mem_cons.1 hx with rfl | hx
                · exact hi
                · exact h.items x hx
              · have := h.bags x hx; omega
              · rcases List.mem_cons.1 hx with rfl | hx
                · refine ⟨by omega, by simp only [List.length_cons]; omega, hbg⟩
                · have := h.bags x hx; refine ⟨by omega, by simp only [List.length_cons]; omega, this.2.2⟩
              · cases j with
                | zero => simp only [getB]; rw [if_pos (by omega)]; simp [h9]
                | succ j =>
                  have := h.chest j (by simpa using hj)
                  simp only [getB]; rw [if_neg (by omega)]
                  rw [List.getD_cons_succ, this]
                  rw [show ((k + 1 : Nat) : Int) + j = k + ((j + 1 : Nat) : Int) by omega]
            · intro h
              refine ⟨fun x hx => h.items x (by simp [hx]), h.up.2, fun x hx => ?_, fun j hj => ?_⟩
              · have h1 := h.bags x (by simp [hx])
                have h2 := h.up.1 x hx
                simp only [List.length_cons] at h1
                refine ⟨by omega, by omega, h1.2.2⟩
              · have := h.chest (j + 1) (by simpa using hj)
                simp only [getB] at this; rw [if_neg (by omega)] at this
                rw [List.getD_cons_succ] at this
                rw [this]
                rw [show ((k + 1 : Nat) : Int) + j = k + ((j + 1 : Nat) : Int) by omega]
          · rw [if_neg hb]
            simp only [reduceCtorEq, false_iff]
            intro h
            refine hb ?_
            have h0 := (h.chest 0 (by simp)).1 (by simpa using h9)
            have hbb := h.bags b (by simp)
            have hk : b.cell = k := by
              rw [Option.isSome_iff_exists] at h0
              obtain ⟨s, hs⟩ := h0
              obtain ⟨x, hx, hxe, _⟩ := getB_mem hs
              rcases List.mem_cons.1 hx with rfl | hx
              · simpa using hxe
              · have := h.up.1 x hx; simp only [Int.natCast_zero, Int.add_zero] at hxe; omega
            have h2 := hbb.2.2
            simp only [bagR, Bool.and_eq_true] at h2
            simp only [boxAt, Bool.and_eq_true, beq_iff_eq]
            exact ⟨hk, h2.1, h2.2⟩
      · rw [if_neg h9, fits_iff r (k + 1) bs]
        constructor
        · intro h
          refine ⟨fun x hx => ?_, h.up, fun x hx => ?_, fun j hj => ?_⟩
          · rcases List.mem_cons.1 hx with rfl | hx
            · exact hi
            · exact h.items x hx
          · have := h.bags x hx; refine ⟨by omega, by simp only [List.length_cons]; omega, this.2.2⟩
          · cases j with
            | zero =>
              have : getB bs ((k : Int) + ((0 : Nat) : Int)) = none := getB_none.2 fun x hx => by have := h.bags x hx; omega
              rw [this]; simp [h9]
            | succ j =>
              have := h.chest j (by simpa using hj)
              rw [List.getD_cons_succ, this]
              rw [show ((k + 1 : Nat) : Int) + j = k + ((j + 1 : Nat) : Int) by omega]
        · intro h
          have h0 : getB bs (k : Int) = none := by
            have := h.chest 0 (by simp)
            simp only [List.getD_cons_zero, Int.natCast_zero, Int.add_zero, h9, false_iff] at this
            simpa using this
          refine ⟨fun x hx => h.items x (by simp [hx]), h.up, fun x hx => ?_, fun j hj => ?_⟩
          · have h1 := h.bags x hx
            have h2 := getB_none.1 h0 x hx
            simp only [List.length_cons] at h1
            refine ⟨by omega, by omega, h1.2.2⟩
          · have := h.chest (j + 1) (by simpa using hj)
            rw [List.getD_cons_succ] at this
            rw [this]
            rw [show ((k + 1 : Nat) : Int) + j = k + ((j + 1 : Nat) : Int) by omega]
    · rw [if_neg hi]
      simp only [reduceCtorEq, false_iff]
      intro h
      exact hi (h.items i (by simp))

/-- What a right chunk is. -/
theorem right_iff (c : Chunk) : rightB c = true ↔ headB c = true ∧ Fits c.cells 0 c.boxes ∧ c.heaps.any badHeap = false := by
  constructor
  · intro h
    obtain ⟨h1, h2, h3⟩ := rightC_of h
    exact ⟨h1, (fits_iff _ _ _).1 h2, h3⟩
  · rintro ⟨h1, h2, h3⟩
    unfold rightB
    rw [h1, (fits_iff _ _ _).2 h2, h3]; rfl

theorem rises_count : ∀ {l : List Box} (lo : Int) {hi : Int}, rises l → (∀ b ∈ l, lo ≤ b.cell ∧ b.cell < hi) → lo ≤ hi → (l.length : Int) ≤ hi - lo
  | [], lo, hi, _, _, h => by simp; omega
  | b :: r, lo, hi, h, hb, hlh => by
    have h0 := hb b (by simp)
    have := rises_count (l := r) (b.cell + 1) (hi := hi) h.2 (fun x hx => by have := h.1 x hx; have := hb x (by simp [hx]); omega) (by omega)
    simp only [List.length_cons]; omega
theorem right_len {c : Chunk} (h : rightB c = true) : c.cells.length = 64 := (rightC_of h).len
theorem right_fits {c : Chunk} (h : rightB c = true) : Fits c.cells 0 c.boxes := ((right_iff c).1 h).2.1
theorem right_bag {c : Chunk} (h : rightB c = true) {b : Box} (hb : b ∈ c.boxes) : b.bag.length = 6 ∧ bagOk b.bag = true := by
  have := ((right_fits h).bags b hb).2.2
  simp only [bagR, Bool.and_eq_true, decide_eq_true_eq] at this
  exact ⟨by omega, this.2⟩
theorem right_heaps {c : Chunk} (h : rightB c = true) : c.heaps.length ≤ 32 := by
  have := ((right_iff c).1 h).1
  simp only [headB, Bool.and_eq_true, decide_eq_true_eq] at this; omega
theorem right_boxes {c : Chunk} (h : rightB c = true) : c.boxes.length ≤ 64 := by
  have hf := right_fits h
  have := rises_count (l := c.boxes) 0 (hi := 64) hf.up (fun b hb => by have := hf.bags b hb; rw [right_len h] at this; omega) (by omega)
  omega
theorem fitC_right {c : Chunk} (h : rightB c = true) : FitC c :=
  ⟨by rw [right_len h]; omega, by have := right_heaps h; omega, by have := right_boxes h; omega, fun b hb => by rw [(right_bag h hb).1]; omega⟩

theorem okC_set {c : Chunk} (hc : OkC c) (h : rightB c = true) {t i : Int} (h0 : 0 ≤ i) (h1 : i ≤ 255) : OkC { c with cells := c.cells.set t.toNat i, boxes := putB c.boxes t i } := by
  have hu := (right_fits h).up
  refine ⟨fun x hx => ?_, hc.heaps, fun b hb => ?_, ?_, hc.nh, ?_⟩
  · rcases List.mem_or_eq_of_mem_set hx with hx | rfl
    · exact hc.cells x hx
    · exact ⟨h0, h1⟩
  · rcases putB_mem hu hb with hb | ⟨_, rfl⟩
    · exact hc.boxes b hb
    · refine ⟨fun s hs => ?_, by simp [newBag, big]⟩
      simp only [newBag, List.mem_replicate] at hs
      rw [hs.2]; exact ⟨by decide, by decide⟩
  · simp only [List.length_set]; exact hc.nc
  · show (putB c.boxes t i).length ≤ big
    rw [putB_eq hu]
    have hd : ∀ l : List Box, (delR t l).length ≤ l.length := by
      intro l
      induction l with
      | nil => simp [delR]
      | cons b r ih => simp only [delR]; split <;> (try split) <;> simp <;> omega
    have hi : ∀ (x : Box) (l : List Box), (insR x l).length = l.length + 1 := by
      intro x l
      induction l with
      | nil => simp [insR]
      | cons b r ih => simp only [insR]; split <;> simp; omega
    have := right_boxes h
    have := hd c.boxes
    unfold big
    split
    · rw [hi]; omega
    · omega

/-- A cell that is set. -/
def putC (c : Chunk) (t i : Int) : Chunk := { c with cells := c.cells.set t.toNat i, boxes := putB c.boxes t i }
theorem right_put {c : Chunk} (h : rightB c = true) {t i : Int} (ht : 0 ≤ t) (ht2 : t < 64) (hi : itemOk i = true) : rightB (putC c t i) = true := by
  obtain ⟨h1, h2, h3⟩ := (right_iff c).1 h
  have hl := right_len h
  rw [right_iff]
  refine ⟨?_, ⟨fun x hx => ?_, rises_putB h2.up t i, fun b hb => ?_, fun j hj => ?_⟩, h3⟩
  · rw [← h1]; unfold headB; rw [show (putC c t i).cells.length = c.cells.length by simp [putC]]; rfl
  · rcases List.mem_or_eq_of_mem_set hx with hx | rfl
    · exact h2.items x hx
    · exact hi
  · simp only [putC, List.length_set]
    rcases putB_mem h2.up hb with hb | ⟨_, rfl⟩
    · exact h2.bags b hb
    · refine ⟨by simpa using ht, by simp only [hl]; simpa using ht2, bagR_new⟩
  · simp only [putC, List.length_set] at hj ⊢
    rw [getB_putB h2.up]
    have hc := h2.chest j hj
    by_cases hjt : j = t.toNat
    · subst hjt
      rw [if_pos (by simp; omega)]
      simp only [List.getD_eq_getElem?_getD, List.getElem?_set_self hj, Option.getD_some]
      split <;> simp_all
    · rw [if_neg (by simp; omega)]
      simp only [List.getD_eq_getElem?_getD, List.getElem?_set_ne (fun e => hjt e.symm)] at hc ⊢
      exact hc

def fullAt (c : Chunk) (t : Int) : Bool := match getB c.boxes t with
  | some s => fullB s
  | none => false
/-- What Set does to a right chunk. -/
theorem setC_right {c : Chunk} (h : rightB c = true) {t i : Int} (ht : 0 ≤ t) (ht2 : t < 64) :
    setC c t i = if itemOk i = false then (c, 100) else if fullAt c t = true then (c, 104) else (putC c t i, 0) := by
  have hu := (right_fits h).up
  unfold setC
  rw [if_neg (by rw [h]; simp), if_neg (by omega)]
  have e1 : (¬ (i = 0) ∧ blockB i = false) ↔ itemOk i = false := by simp [itemOk]
  by_cases hi : itemOk i = false
  · rw [if_pos (e1.2 hi), if_pos hi]
  · rw [if_neg (fun x => hi (e1.1 x)), if_neg hi]
    have e2 : (thereB c.boxes t = true ∧ fullB (elt .box c.boxes (lb t c.boxes)).bag = true) ↔ fullAt c t = true := by
      unfold fullAt
      cases hth : thereB c.boxes t with
      | true => rw [there_get hu t hth]; simp
      | false => rw [there_none hu t hth]; simp
    by_cases hf : fullAt c t = true
    · rw [if_pos (e2.2 hf), if_pos hf]
    · rw [if_neg (fun x => hf (e2.1 x)), if_neg hf]; rfl
theorem fullAt_put {c : Chunk} (h : rightB c = true) {t u i : Int} (hne : u ≠ t) : fullAt (putC c t i) u = fullAt c u := by
  unfold fullAt
  rw [show (putC c t i).boxes = putB c.boxes t i from rfl, getB_putB (right_fits h).up, if_neg hne]
theorem put_comm {c : Chunk} (h : rightB c = true) {t u i j : Int} (ht : 0 ≤ t) (hu : 0 ≤ u) (hne : t ≠ u) : putC (putC c t i) u j = putC (putC c u j) t i := by
  have hr := (right_fits h).up
  have e1 : (c.cells.set t.toNat i).set u.toNat j = (c.cells.set u.toNat j).set t.toNat i := List.set_comm _ _ (by omega)
  have e2 : putB (putB c.boxes t i) u j = putB (putB c.boxes u j) t i := by
    refine rises_ext (rises_putB (rises_putB hr t i) u j) (rises_putB (rises_putB hr u j) t i) fun x => ?_
    rw [getB_putB (rises_putB hr t i), getB_putB hr, getB_putB (rises_putB hr u j), getB_putB hr]
    by_cases h1 : x = u
    · subst h1; have hx : ¬ x = t := fun e => hne e.symm
      simp [hx]
    · by_cases h2 : x = t
      · subst h2; simp [h1]
      · simp [h1, h2]
  simp only [putC, e1, e2]

/-- TWO CELLS IN WHATEVER ORDER. -/
theorem set_comm2 {c : Chunk} (h : rightB c = true) {t u i j : Int} (ht : 0 ≤ t) (ht2 : t < 64) (hu : 0 ≤ u) (hu2 : u < 64) (hne : t ≠ u) :
    setC (setC c t i).1 u j = ((setC (setC c u j).1 t i).1, (setC c u j).2) ∧ (setC c t i).2 = (setC (setC c u j).1 t i).2 := by
  rw [setC_right h ht ht2, setC_right h hu hu2]
  cases hi : itemOk i with
  | false =>
    rw [if_pos rfl]
    cases hj : itemOk j with
    | false => simp [setC_right h ht ht2, setC_right h hu hu2, hi, hj]
    | true =>
      by_cases hf : fullAt c u = true
      · simp [setC_right h ht ht2, setC_right h hu hu2, hi, hj, hf]
      · simp [setC_right h ht ht2, setC_right h hu hu2, hi, hj, hf, setC_right (right_put h hu hu2 hj) ht ht2]
  | true =>
    rw [if_neg (by simp)]
    by_cases hg : fullAt c t = true
    · rw [if_pos hg]
      cases hj : itemOk j with
      | false => simp [setC_right h ht ht2, setC_right h hu hu2, hi, hj, hg]
      | true =>
        by_cases hf : fullAt c u = true
        · simp [setC_right h ht ht2, setC_right h hu hu2, hi, hj, hf, hg]
        · simp [setC_right h ht ht2, setC_right h hu hu2, hi, hj, hf, hg, setC_right (right_put h hu hu2 hj) ht ht2, fullAt_put h hne]
    · rw [if_neg hg]
      cases hj : itemOk j with
      | false => simp [setC_right h ht ht2, hi, hj, hg, setC_right (right_put h ht ht2 hi) hu hu2]
      | true =>
        by_cases hf : fullAt c u = true
        · simp [setC_right h ht ht2, hi, hj, hf, hg, setC_right (right_put h ht ht2 hi) hu hu2, fullAt_put h (fun e => hne e.symm)]
        · simp [hi, hj, hf, hg, setC_right (right_put h ht ht2 hi) hu hu2, setC_right (right_put h hu hu2 hj) ht ht2, fullAt_put h hne, fullAt_put h (fun e => hne e.symm), put_comm h ht hu hne]

theorem cellD {l : List Int} {a : Int} : l.getD a.toNat 0 = elt .u8 l a.toNat := by
  unfold elt
  simp only [List.getD_eq_getElem?_getD]
  rfl
theorem chest_iff {c : Chunk} (h : rightB c = true) {a : Int} (h0 : 0 ≤ a) (h1 : a < 64) : elt .u8 c.cells a.toNat = 9 ↔ (getB c.boxes a).isSome = true := by
  have := (right_fits h).chest a.toNat (by rw [right_len h]; omega)
  rw [cellD, show ((0 : Nat) : Int) + (a.toNat : Int) = a by omega] at this
  exact this
theorem set_elt_u8 {l : List Int} {k : Nat} : l.set k (elt .u8 l k) = l := by
  by_cases h : k < l.length
  · have := elt_get .u8 l k h
    rw [List.getElem?_eq_getElem h] at this
    rw [← Option.some.inj this]; exact List.set_getElem_self h
  · exact List.set_eq_of_length_le (by omega)
/-- What is no chest and is set to what it is stays. -/
theorem set_same {c : Chunk} (h : rightB c = true) {a : Int} (h0 : 0 ≤ a) (h1 : a < 64) (h9 : elt .u8 c.cells a.toNat ≠ 9) : setC c a (elt .u8 c.cells a.toNat) = (c, 0) := by
  have hf := right_fits h
  have hn : getB c.boxes a = none := by
    have := chest_iff h h0 h1
    cases hg : getB c.boxes a with
    | none => rfl
    | some s => rw [hg] at this; exact absurd (this.2 rfl) h9
  have hi : itemOk (elt .u8 c.cells a.toNat) = true := hf.items _ (elt_mem (t := .u8) (by rw [right_len h]; omega))
  rw [setC_right h h0 h1, if_neg (by rw [hi]; simp), if_neg (by unfold fullAt; rw [hn]; simp)]
  have e2 : putB c.boxes a (elt .u8 c.cells a.toNat) = c.boxes := rises_ext (rises_putB hf.up _ _) hf.up fun u => by
    rw [getB_putB hf.up]; split
    · rename_i hu; rw [hu, hn]
    · rfl
  unfold putC
  rw [e2, set_elt_u8]
/-- A chest upon air, and air again. -/
theorem chest_back {c : Chunk} (h : rightB c = true) {a : Int} (h0 : 0 ≤ a) (h1 : a < 64) (ha : elt .u8 c.cells a.toNat = 0) :
    setC c a 9 = (putC c a 9, 0) ∧ setC (putC c a 9) a 0 = (c, 0) ∧ getB (putC c a 9).boxes a = some newBag := by
  have hf := right_fits h
  have hn : getB c.boxes a = none := by
    have := chest_iff h h0 h1
    cases hg : getB c.boxes a with
    | none => rfl
    | some s => rw [hg] at this; exact absurd (ha.symm.trans (this.2 rfl)) (by decide)
  have hgn : getB (putC c a 9).boxes a = some newBag := by show getB (putB c.boxes a 9) a = _; rw [getB_putB hf.up]; simp
  have hr := right_put h h0 h1 (show itemOk 9 = true by decide)
  refine ⟨?_, ?_, hgn⟩
  · rw [setC_right h h0 h1, if_neg (by decide), if_neg (by unfold fullAt; rw [hn]; simp)]
  · rw [setC_right hr h0 h1, if_neg (by decide), if_neg (by unfold fullAt; rw [hgn]; decide)]
    have e1 : (c.cells.set a.toNat 9).set a.toNat 0 = c.cells := by rw [List.set_set, ← ha]; exact set_elt_u8
    have e2 : putB (putB c.boxes a 9) a 0 = c.boxes := rises_ext (rises_putB (rises_putB hf.up _ _) _ _) hf.up fun u => by
      rw [getB_putB (rises_putB hf.up _ _), getB_putB hf.up]
      split
      · rename_i hu; rw [hu, hn]; rfl
      · rfl
    simp only [putC, e1, e2]

theorem okC_setC {c : Chunk} (hc : OkC c) (h : rightB c = true) {t i : Int} (h0 : 0 ≤ i) (h1 : i ≤ 255) (ht : 0 ≤ t) (ht2 : t < 64) : OkC (setC c t i).1 := by
  rw [setC_right h ht ht2]
  (repeat' split) <;> first | exact hc | exact okC_set hc h h0 h1
theorem right_setC {c : Chunk} (h : rightB c = true) {t i : Int} (ht : 0 ≤ t) (ht2 : t < 64) : rightB (setC c t i).1 = true := by
  rw [setC_right h ht ht2]
  split
  · exact h
  · rename_i hi
    split
    · exact h
    · exact right_put h ht ht2 (by simpa using hi)
theorem boxC_get {c : Chunk} (h : rightB c = true) (t : Int) : boxC c t = ((getB c.boxes t).getD [], (getB c.boxes t).isSome) := by
  have hu := (right_fits h).up
  unfold boxC
  rw [if_neg (by rw [h]; simp)]
  cases hth : thereB c.boxes t with
  | true => rw [there_get hu t hth]; rfl
  | false => rw [there_none hu t hth]; rfl

/-- A box that is filled. -/
def updC (c : Chunk) (t : Int) (l : List Slot) : Chunk := { c with boxes := updB c.boxes t l }
theorem updB_mem {l : List Box} {t : Int} {s : List Slot} {x : Box} (hx : x ∈ updB l t s) : x ∈ l ∨ x = ⟨t, s⟩ := by
  rcases List.mem_or_eq_of_mem_set hx with h | h
  · exact .inl h
  · exact .inr h
theorem okC_upd {c : Chunk} (hc : OkC c) {t : Int} {l : List Slot} (hl : ∀ s ∈ l, okSlot s) (hn : l.length ≤ big) : OkC (updC c t l) := by
  refine ⟨hc.cells, hc.heaps, fun b hb => ?_, hc.nc, hc.nh, ?_⟩
  · rcases updB_mem hb with hb | rfl
    · exact hc.boxes b hb
    · exact ⟨hl, hn⟩
  · show (updB c.boxes t l).length ≤ big
    unfold updB; rw [List.length_set]; exact hc.nb
theorem right_upd {c : Chunk} (h : rightB c = true) {t : Int} {l : List Slot} (ht : thereB c.boxes t = true) (hl : bagR l = true) : rightB (updC c t l) = true := by
  obtain ⟨h1, h2, h3⟩ := (right_iff c).1 h
  rw [right_iff]
  refine ⟨h1, ⟨h2.items, rises_updB h2.up ht, fun b hb => ?_, fun j hj => ?_⟩, h3⟩
  · rcases updB_mem hb with hb | rfl
    · exact h2.bags b hb
    · have hg := there_get h2.up t ht
      obtain ⟨x, hx, hxe, _⟩ := getB_mem hg
      have := h2.bags x hx
      exact ⟨by simp only; omega, by simp only [updC]; omega, hl⟩
  · show c.cells.getD j 0 = 9 ↔ (getB (updB c.boxes t l) _).isSome = true
    rw [getB_updB h2.up ht, h2.chest j hj]
    split
    · rename_i he; rw [he, there_get h2.up t ht]; simp
    · rfl
theorem fillC_right {c : Chunk} (h : rightB c = true) (t : Int) (l : List Slot) :
    fillC c t l = if (getB c.boxes t).isSome = false then (c, 102) else if bagR l = false then (c, 103) else (updC c t l, 0) := by
  unfold fillC
  rw [if_neg (by rw [h]; simp), there_iff (right_fits h).up]
  split
  · rfl
  · have e : (¬ (l.length = 6 ∧ bagOk l = true)) ↔ bagR l = false := by
      unfold bagR
      cases bagOk l <;> simp <;> omega
    by_cases hb : bagR l = false
    · rw [if_pos (e.2 hb), if_pos hb]
    · rw [if_neg (fun x => hb (e.1 x)), if_neg hb]; rfl

end Go.Proofs.Ytokdgkdpdepaeaa
