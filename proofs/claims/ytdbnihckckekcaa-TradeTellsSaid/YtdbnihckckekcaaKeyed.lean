
/- Lists that rise by a key, as tables. No program in sight. -/
import Derived.Test.YtdbnihckckekcaaBag
set_option linter.unusedSimpArgs false
set_option linter.unusedVariables false
namespace Go.Proofs.Ytdbnihckckekcaa
open Go Go.RowKit Eng

/-- A list rises by a key. -/
def risesK {α : Type} (key : α → Int) : List α → Prop
  | [] => True
  | b :: r => (∀ x ∈ r, key b < key x) ∧ risesK key r
def lbK {α : Type} (key : α → Int) (t : Int) : List α → Nat
  | [] => 0
  | b :: r => if key b < t then lbK key t r + 1 else 0
def getK {α : Type} (key : α → Int) : List α → Int → Option α
  | [], _ => none
  | b :: r, t => if key b = t then some b else getK key r t
def delK {α : Type} (key : α → Int) (t : Int) : List α → List α
  | [] => []
  | b :: r => if key b < t then b :: delK key t r else if key b = t then r else b :: r
def insK {α : Type} (key : α → Int) (x : α) : List α → List α
  | [] => [x]
  | b :: r => if key b < key x then b :: insK key x r else x :: b :: r

theorem lbK_le {α : Type} (key : α → Int) (t : Int) (l : List α) : lbK key t l ≤ l.length := by
  induction l with
  | nil => simp [lbK]
  | cons b r ih => simp only [lbK, List.length_cons]; split <;> omega
theorem getK_none {α : Type} {key : α → Int} {l : List α} {t : Int} : getK key l t = none ↔ ∀ b ∈ l, key b ≠ t := by
  induction l with
  | nil => simp [getK]
  | cons b r ih =>
    simp only [getK, List.mem_cons, forall_eq_or_imp]
    split
    · rename_i h; simp [h]
    · rename_i h; rw [ih]; exact ⟨fun h2 => ⟨h, h2⟩, fun h2 => h2.2⟩
theorem getK_mem {α : Type} {key : α → Int} {l : List α} {t : Int} {s : α} (h : getK key l t = some s) : s ∈ l ∧ key s = t := by
  induction l with
  | nil => simp [getK] at h
  | cons b r ih =>
    simp only [getK] at h
    split at h
    · rename_i hb; cases h; exact ⟨by simp, hb⟩
    · obtain ⟨h1, h2⟩ := ih h; exact ⟨by simp [h1], h2⟩
theorem getK_of_mem {α : Type} {key : α → Int} {l : List α} (h : risesK key l) {b : α} (hb : b ∈ l) : getK key l (key b) = some b := by
  induction l with
  | nil => simp at hb
  | cons a r ih =>
    simp only [getK]
    rcases List.mem_cons.1 hb with rfl | hb
    · simp
    · have := h.1 b hb
      rw [if_neg (by omega)]; exact ih h.2 hb
theorem risesK_ext {α : Type} {key : α → Int} : ∀ {l l' : List α}, risesK key l → risesK key l' → (∀ t, getK key l t = getK key l' t) → l = l'
  | [], [], _, _, _ => rfl
  | [], b :: r, _, _, h => by have := h (key b); simp [getK] at this
  | b :: r, [], _, _, h => by have := h (key b); simp [getK] at this
  | b :: r, b' :: r', h1, h2, h => by
    have hb := h (key b)
    simp only [getK, if_true] at hb
    have hb' := h (key b')
    simp only [getK, if_true] at hb'
    have e : key b = key b' := by
      by_cases he : key b' = key b
      · exact he.symm
      · rw [if_neg he] at hb
        rw [if_neg (fun e => he e.symm)] at hb'
        obtain ⟨hx, hxe⟩ := getK_mem hb.symm
        obtain ⟨hy, hye⟩ := getK_mem hb'
        have := h2.1 b hx
        have := h1.1 b' hy
        omega
    rw [if_pos e.symm] at hb
    have eb : b = b' := Option.some.inj hb
    subst eb
    rw [risesK_ext (l := r) (l' := r') h1.2 h2.2 fun t => ?_]
    have ht := h t
    simp only [getK] at ht
    split at ht
    · rename_i hbt
      have n1 : getK key r t = none := getK_none.2 fun x hx => by have := h1.1 x hx; omega
      have n2 : getK key r' t = none := getK_none.2 fun x hx => by have := h2.1 x hx; omega
      rw [n1, n2]
    · exact ht
/-- By places. -/
theorem lbK_at {α : Type} {key : α → Int} : ∀ {l : List α} (t : Int), risesK key l → (match l[lbK key t l]? with | some b => if key b = t then some b else none | none => none) = getK key l t
  | [], t, _ => rfl
  | b :: r, t, h => by
    by_cases hb : key b < t
    · have ih := lbK_at (l := r) t h.2
      simp only [lbK, getK, if_pos hb, List.getElem?_cons_succ, if_neg (show ¬ key b = t by omega)]
      exact ih
    · simp only [lbK, getK, if_neg hb, List.getElem?_cons_zero]
      split
      · rfl
      · rename_i he
        exact (getK_none.2 fun x hx => by have := h.1 x hx; omega).symm
theorem lbK_eq {α : Type} {key : α → Int} {t : Int} : ∀ {l : List α} {i : Nat}, i ≤ l.length → (∀ k b, l[k]? = some b → k < i → key b < t) → (∀ b, l[i]? = some b → t ≤ key b) → lbK key t l = i
  | [], i, hi, _, _ => by simp at hi; simp [lbK, hi]
  | b :: r, 0, _, _, h => by
    have := h b (by simp)
    simp only [lbK]; rw [if_neg (by omega)]
  | b :: r, i + 1, hi, h1, h2 => by
    have h0 := h1 0 b (by simp) (by omega)
    simp only [lbK, List.length_cons] at *
    rw [if_pos h0, lbK_eq (l := r) (i := i) (by omega) (fun k x hx hk => h1 (k + 1) x (by simpa using hx) (by omega)) (fun x hx => h2 x (by simpa using hx))]
theorem risesK_lt {α : Type} {key : α → Int} : ∀ {l : List α}, risesK key l → ∀ {i j : Nat} {a b : α}, i < j → l[i]? = some a → l[j]? = some b → key a < key b
  | [], _, i, j, a, b, _, ha, _ => by simp at ha
  | c :: r, h, i, j, a, b, hij, ha, hb => by
    cases j with
    | zero => omega
    | succ j =>
      simp at hb
      cases i with
      | zero => simp at ha; subst ha; exact h.1 b (List.mem_of_getElem? hb)
      | succ i => simp at ha; exact risesK_lt (l := r) h.2 (by omega) ha hb
theorem delK_mem {α : Type} {key : α → Int} {t : Int} : ∀ {l : List α} {x : α}, x ∈ delK key t l → x ∈ l
  | [], x, h => by simp [delK] at h
  | b :: r, x, h => by
    simp only [delK] at h
    split at h
    · rcases List.mem_cons.1 h with rfl | h
      · simp
      · simp [delK_mem h]
    · split at h
      · simp [h]
      · exact h
theorem risesK_del {α : Type} {key : α → Int} {t : Int} : ∀ {l : List α}, risesK key l → risesK key (delK key t l)
  | [], _ => trivial
  | b :: r, h => by
    simp only [delK]
    split
    · exact ⟨fun x hx => h.1 x (delK_mem hx), risesK_del h.2⟩
    · split
      · exact h.2
      · exact h
theorem getK_del {α : Type} {key : α → Int} {t u : Int} : ∀ {l : List α}, risesK key l → getK key (delK key t l) u = if u = t then none else getK key l u
  | [], _ => by simp [delK, getK]
  | b :: r, h => by
    have ih := getK_del (t := t) (u := u) h.2
    simp only [delK]
    split
    · rename_i hb
      simp only [getK, ih]
      split
      · rename_i hbu; rw [if_neg (by omega)]
      · rfl
    · split
      · rename_i hbe
        by_cases hu : u = t
        · rw [if_pos hu, getK_none]; intro x hx; have := h.1 x hx; omega
        · rw [if_neg hu]; simp only [getK]; rw [if_neg (by omega)]
      · rename_i hbt hbe
        by_cases hu : u = t
        · rw [if_pos hu, getK_none]
          intro x hx
          rcases List.mem_cons.1 hx with rfl | hx
          · omega
          · have := h.1 x hx; omega
        · rw [if_neg hu]
theorem ins_eqK {α : Type} (key : α → Int) (x : α) : ∀ l : List α, l.take (lbK key (key x) l) ++ x :: l.drop (lbK key (key x) l) = insK key x l
  | [] => rfl
  | b :: r => by
    simp only [lbK, insK]
    split
    · rw [← ins_eqK key x r]; rfl
    · rfl
theorem del_eqK {α : Type} {key : α → Int} {t : Int} : ∀ {l : List α}, risesK key l → delK key t l = if (getK key l t).isSome then l.take (lbK key t l) ++ l.drop (lbK key t l + 1) else l
  | [], _ => rfl
  | b :: r, h => by
    have ih := del_eqK (t := t) h.2
    by_cases hb : key b < t
    · have e1 : getK key (b :: r) t = getK key r t := by simp only [getK, if_neg (show ¬ key b = t by omega)]
      have e2 : lbK key t (b :: r) = lbK key t r + 1 := by simp only [lbK, if_pos hb]
      rw [e1, e2]
      simp only [delK, if_pos hb, ih]
      split <;> simp
    · have e2 : lbK key t (b :: r) = 0 := by simp only [lbK, if_neg hb]
      rw [e2]
      by_cases he : key b = t
      · simp [he, delK, getK]
      · have hn : getK key r t = none := getK_none.2 fun x hx => by have := h.1 x hx; omega
        simp [he, hn, delK, getK, hb]
theorem lbK_del {α : Type} {key : α → Int} (t : Int) : ∀ l : List α, risesK key l → lbK key t (delK key t l) = lbK key t l
  | [], _ => rfl
  | b :: r, h => by
    simp only [delK]
    split
    · rename_i hb; simp only [lbK, if_pos hb]; rw [lbK_del t r h.2]
    · rename_i hb
      split
      · rename_i he
        simp only [lbK, if_neg hb]
        cases r with
        | nil => rfl
        | cons a r => simp only [lbK]; have := h.1 a (by simp); rw [if_neg (by omega)]
      · rfl
theorem insK_mem {α : Type} {key : α → Int} {x : α} : ∀ {l : List α} {y : α}, y ∈ insK key x l → y = x ∨ y ∈ l
  | [], y, h => by simp [insK] at h; exact .inl h
  | b :: r, y, h => by
    simp only [insK] at h
    split at h
    · rcases List.mem_cons.1 h with rfl | h
      · simp
      · rcases insK_mem h with h | h
        · exact .inl h
        · simp [h]
    · rcases List.mem_cons.1 h with rfl | h
      · exact .inl rfl
      · exact .inr h
theorem risesK_ins {α : Type} {key : α → Int} {x : α} : ∀ {l : List α}, risesK key l → getK key l (key x) = none → risesK key (insK key x l)
  | [], _, _ => ⟨by simp, trivial⟩
  | b :: r, h, hn => by
    have hn' := getK_none.1 hn
    simp only [insK]
    split
    · rename_i hb
      refine ⟨fun y hy => ?_, risesK_ins h.2 (getK_none.2 fun y hy => hn' y (by simp [hy]))⟩
      rcases insK_mem hy with rfl | hy
      · exact hb
      · exact h.1 y hy
    · rename_i hb
      have h0 := hn' b (by simp)
      refine ⟨fun y hy => ?_, h⟩
      rcases List.mem_cons.1 hy with rfl | hy
      · omega
      · have := h.1 y hy; omega
theorem getK_ins {α : Type} {key : α → Int} {x : α} {u : Int} : ∀ {l : List α}, getK key l (key x) = none → getK key (insK key x l) u = if u = key x then some x else getK key l u
  | [], _ => by simp only [insK, getK]; by_cases h : u = key x <;> simp [h]; exact fun e => absurd e.symm h
  | b :: r, hn => by
    have hn' := getK_none.1 hn
    have h0 := hn' b (by simp)
    have ih := getK_ins (x := x) (u := u) (l := r) (getK_none.2 fun y hy => hn' y (by simp [hy]))
    simp only [insK]
    split
    · simp only [getK, ih]
      by_cases hbu : key b = u
      · rw [if_pos hbu, if_pos hbu, if_neg (by omega)]
      · rw [if_neg hbu, if_neg hbu]
    · simp only [getK]
      by_cases hu : u = key x
      · rw [if_pos hu.symm, if_pos hu]
      · rw [if_neg (fun e => hu e.symm), if_neg hu]
theorem upd_eqK {α : Type} {key : α → Int} (x : α) : ∀ (l : List α), risesK key l → (getK key l (key x)).isSome = true → l.set (lbK key (key x) l) x = insK key x (delK key (key x) l)
  | [], _, h => by simp [getK] at h
  | b :: r, hr, h => by
    simp only [getK] at h
    simp only [lbK, delK]
    split
    · rename_i hb
      rw [if_neg (by omega)] at h
      simp only [List.set_cons_succ, insK, if_pos hb]
      rw [upd_eqK x r hr.2 h]
    · rename_i hb
      by_cases he : key b = key x
      · rw [if_pos he, List.set_cons_zero]
        cases r with
        | nil => rfl
        | cons a r => have := hr.1 a (by simp); simp only [insK]; rw [if_neg (by omega)]
      · rw [if_neg he] at h
        have hn : getK key r (key x) = none := getK_none.2 fun y hy => by have := hr.1 y hy; omega
        rw [hn] at h; cases h
theorem risesK_upd {α : Type} {key : α → Int} {x : α} {l : List α} (h : risesK key l) (hs : (getK key l (key x)).isSome = true) : risesK key (l.set (lbK key (key x) l) x) := by
  rw [upd_eqK x l h hs]
  exact risesK_ins (risesK_del h) (by rw [getK_del h]; simp)
theorem getK_upd {α : Type} {key : α → Int} {x : α} {l : List α} (h : risesK key l) (hs : (getK key l (key x)).isSome = true) (u : Int) : getK key (l.set (lbK key (key x) l) x) u = if u = key x then some x else getK key l u := by
  rw [upd_eqK x l h hs, getK_ins (by rw [getK_del h]; simp), getK_del h]
  split <;> simp_all
theorem lbK_lt {α : Type} {key : α → Int} {l : List α} {t : Int} {b : α} (h : risesK key l) (hg : getK key l t = some b) : lbK key t l < l.length ∧ l[lbK key t l]? = some b := by
  have h1 := lbK_at t h
  rw [hg] at h1
  split at h1
  · rename_i b' hb'
    split at h1
    · cases h1; exact ⟨(List.getElem?_eq_some_iff.1 hb').1, hb'⟩
    · cases h1
  · cases h1
theorem insK_length {α : Type} (key : α → Int) (x : α) (l : List α) : (insK key x l).length = l.length + 1 := by
  induction l with
  | nil => rfl
  | cons b r ih => simp only [insK]; split <;> simp [ih]
theorem delK_length {α : Type} (key : α → Int) (t : Int) (l : List α) : (delK key t l).length ≤ l.length := by
  induction l with
  | nil => simp [delK]
  | cons b r ih => simp only [delK]; split <;> (try split) <;> simp <;> omega

end Go.Proofs.Ytdbnihckckekcaa
