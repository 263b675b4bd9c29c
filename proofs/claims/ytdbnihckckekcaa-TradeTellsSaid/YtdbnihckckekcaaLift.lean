/- A CALL PROVED ONCE, AT LITERAL NUMBERS OF OWN BLOCKS, USED AT WHATEVER NUMBERS. -/
import Derived.Test.YtdbnihckckekcaaEv4
set_option linter.unusedSimpArgs false
set_option linter.unusedVariables false
namespace Eng
open Go Go.RowKit

mutual
def renV (ρ : Nat → Nat) : AV → AV
  | .own t k o n c => .own t (ρ k) o n c
  | .ptr k o => .ptr (ρ k) o
  | .rptr t k i o => .rptr t (ρ k) i o
  | .agg cs => .agg (renL ρ cs)
  | .tup cs => .tup (renL ρ cs)
  | .clo f a b => .clo f (renL ρ a) (renL ρ b)
  | v => v
def renL (ρ : Nat → Nat) : List AV → List AV
  | [] => []
  | c :: r => renV ρ c :: renL ρ r
end
def renB (ρ : Nat → Nat) : Blk → Blk
  | .box cs => .box (renL ρ cs)
  | .row t l => .row t l

mutual
/-- All numbers that are named satisfy p. -/
def namB (p : Nat → Bool) : AV → Bool
  | .own _ k _ _ _ => p k
  | .ptr k _ => p k
  | .rptr _ k _ _ => p k
  | .agg cs => namL p cs
  | .tup cs => namL p cs
  | .clo _ a b => match namL p a with | true => namL p b | false => false
  | _ => true
def namL (p : Nat → Bool) : List AV → Bool
  | [] => true
  | c :: r => match namB p c with | true => namL p r | false => false
end

theorem namL_get {p : Nat → Bool} {cs : List AV} (h : namL p cs = true) {i : Nat} {c : AV} (hc : cs[i]? = some c) : namB p c = true := by
  induction cs generalizing i with
  | nil => simp at hc
  | cons a r ih =>
    simp only [namL] at h
    cases ha : namB p a with
    | false => rw [ha] at h; cases h
    | true =>
      rw [ha] at h
      cases i with
      | zero => simp at hc; subst hc; exact ha
      | succ i => simp at hc; exact ih h hc

theorem renL_length (ρ : Nat → Nat) : ∀ cs : List AV, (renL ρ cs).length = cs.length
  | [] => rfl
  | c :: r => by simp only [renL, List.length_cons]; rw [renL_length ρ r]
theorem renL_get {ρ : Nat → Nat} {cs : List AV} {i : Nat} {c : AV} (h : (renL ρ cs)[i]? = some c) : ∃ c', cs[i]? = some c' ∧ c = renV ρ c' := by
  induction cs generalizing i with
  | nil => simp [renL] at h
  | cons a r ih =>
    simp only [renL] at h
    cases i with
    | zero => simp at h; exact ⟨a, by simp, h.symm⟩
    | succ i => simp at h; simpa using ih h

mutual
theorem renV_inv {ρ σ : Nat → Nat} {p : Nat → Bool} (hp : ∀ k, p k = true → σ (ρ k) = k) : ∀ v : AV, namB p v = true → renV σ (renV ρ v) = v
  | .top, _ => rfl
  | .tt, _ => rfl
  | .ff, _ => rfl
  | .emp _, _ => rfl
  | .bl _ _, _ => rfl
  | .lit _, _ => rfl
  | .agg cs, h => by simp only [renV]; rw [renL_inv hp cs (by simpa [namB] using h)]
  | .tup cs, h => by simp only [renV]; rw [renL_inv hp cs (by simpa [namB] using h)]
  | .vec _ _, _ => rfl
  | .own t k o n c, h => by simp only [renV]; rw [hp k (by simpa [namB] using h)]
  | .ptr k o, h => by simp only [renV]; rw [hp k (by simpa [namB] using h)]
  | .rptr t k i o, h => by simp only [renV]; rw [hp k (by simpa [namB] using h)]
  | .vptr _ _ _ _, _ => rfl
  | .clo f a b, h => by
    simp only [namB] at h
    cases ha : namL p a with
    | false => rw [ha] at h; cases h
    | true => rw [ha] at h; simp only [renV]; rw [renL_inv hp a ha, renL_inv hp b h]
theorem renL_inv {ρ σ : Nat → Nat} {p : Nat → Bool} (hp : ∀ k, p k = true → σ (ρ k) = k) : ∀ cs : List AV, namL p cs = true → renL σ (renL ρ cs) = cs
  | [], _ => rfl
  | c :: r, h => by
    simp only [namL] at h
    cases hc : namB p c with
    | false => rw [hc] at h; cases h
    | true => rw [hc] at h; simp only [renL]; rw [renV_inv hp c hc, renL_inv hp r h]
end

mutual
theorem namV_ren {ρ : Nat → Nat} {p q : Nat → Bool} (hp : ∀ k, p k = true → q (ρ k) = true) : ∀ v : AV, namB p v = true → namB q (renV ρ v) = true
  | .top, _ => rfl
  | .tt, _ => rfl
  | .ff, _ => rfl
  | .emp _, _ => rfl
  | .bl _ _, _ => rfl
  | .lit _, _ => rfl
  | .agg cs, h => by simp only [renV, namB]; exact namL_ren hp cs (by simpa [namB] using h)
  | .tup cs, h => by simp only [renV, namB]; exact namL_ren hp cs (by simpa [namB] using h)
  | .vec _ _, _ => rfl
  | .own t k o n c, h => by simp only [renV, namB]; exact hp k (by simpa [namB] using h)
  | .ptr k o, h => by simp only [renV, namB]; exact hp k (by simpa [namB] using h)
  | .rptr t k i o, h => by simp only [renV, namB]; exact hp k (by simpa [namB] using h)
  | .vptr _ _ _ _, _ => rfl
  | .clo f a b, h => by
    simp only [namB] at h
    cases ha : namL p a with
    | false => rw [ha] at h; cases h
    | true => rw [ha] at h; simp only [renV, namB]; rw [namL_ren hp a ha]; exact namL_ren hp b h
theorem namL_ren {ρ : Nat → Nat} {p q : Nat → Bool} (hp : ∀ k, p k = true → q (ρ k) = true) : ∀ cs : List AV, namL p cs = true → namL q (renL ρ cs) = true
  | [], _ => rfl
  | c :: r, h => by
    simp only [namL] at h
    cases hc : namB p c with
    | false => rw [hc] at h; cases h
    | true => rw [hc] at h; simp only [renL, namL]; rw [namV_ren hp c hc]; exact namL_ren hp r h
end

theorem nam_cells {t : Ty} {e : El t} {c : AV} (h : c ∈ cells t e) (p : Nat → Bool) : namB p c = true := by
  cases t <;> simp [cells] at h <;> (repeat' (first | (subst h; rfl) | (rcases h with h | h)))
theorem ren_cells {t : Ty} {e : El t} {c : AV} (h : c ∈ cells t e) (ρ : Nat → Nat) : renV ρ c = c := by
  cases t <;> simp [cells] at h <;> (repeat' (first | (subst h; rfl) | (rcases h with h | h)))
theorem flat_mem {t : Ty} {l : List (El t)} {i : Nat} {c : AV} (h : (flat t l)[i]? = some c) : ∃ e, c ∈ cells t e := by
  have hm := List.mem_of_getElem? h
  simp only [flat, List.mem_flatMap] at hm
  obtain ⟨e, _, hc⟩ := hm
  exact ⟨e, hc⟩

/-- What stands under other numbers. -/
theorem Rep.ren {w w' : World} {g g' : G} {lim lim' : Nat} {v : AV} {x : Value} {ρ : Nat → Nat} {p : Nat → Bool} (hk : Keeps w w' g g')
    (hp : ∀ k, p k = true → (ρ k < lim' ∨ ρ k % 2 = 1) ∧ (g'.al (ρ k) → g.al k ∧ g'.be (ρ k) = g.be k ∧ g'.sz (ρ k) = g.sz k)) (h : Rep w g lim v x) (hn : namB p v = true) : Rep w' g' lim' (renV ρ v) x := by
  induction h with
  | top x => exact .top x
  | tt => exact .tt
  | ff => exact .ff
  | emp t a => exact .emp t a
  | bl p q b h1 h2 => exact .bl p q b h1 h2
  | lit v => exact .lit v
  | agg cs xs hl h ih => exact .agg _ xs (by rw [renL_length]; exact hl) fun i c x hc hx => by obtain ⟨c', h1, rfl⟩ := renL_get hc; exact ih i c' x h1 hx (namL_get (by simpa [namB] using hn) h1)
  | tup cs xs hl h ih => exact .tup _ xs (by rw [renL_length]; exact hl) fun i c x hc hx => by obtain ⟨c', h1, rfl⟩ := renL_get hc; exact ih i c' x h1 hx (namL_get (by simpa [namB] using hn) h1)
  | vecE t a cap => exact .vecE t a cap
  | vec t l b o cap xs hc hr hw h ih =>
    refine .vec t l b o cap xs hc (hk.ro b hr) (fun i c hi => by rw [World.cell?_of_block (w := w) (hk.same b hr)]; exact hw i c hi) fun i c hi => ?_
    obtain ⟨e, he⟩ := flat_mem hi
    have := ih i c hi (nam_cells he p)
    rwa [ren_cells he] at this
  | own t k off len b cap c hkl hc hcc h =>
    obtain ⟨h1, h2⟩ := hp k (by simpa [namB] using hn)
    exact .own t _ off len b cap c h1 hc hcc fun ha => by obtain ⟨e1, e2, e3⟩ := h2 ha; rw [e2, e3]; exact h e1
  | ownE t k off c ad hkl hcc => exact .ownE t _ off c ad (hp k (by simpa [namB] using hn)).1 hcc
  | ptr k off b hkl h =>
    obtain ⟨h1, h2⟩ := hp k (by simpa [namB] using hn)
    exact .ptr _ off b h1 fun ha => by obtain ⟨e1, e2, e3⟩ := h2 ha; rw [e2]; exact h e1
  | rptr t k i off b hkl h =>
    obtain ⟨h1, h2⟩ := hp k (by simpa [namB] using hn)
    exact .rptr t _ i off b h1 fun ha => by obtain ⟨e1, e2, e3⟩ := h2 ha; rw [e2]; exact h e1
  | vptr t l i off b o xs hr hw h ih =>
    refine .vptr t l i off b o xs (hk.ro b hr) (fun i c hi => by rw [World.cell?_of_block (w := w) (hk.same b hr)]; exact hw i c hi) fun i c hi => ?_
    obtain ⟨e, he⟩ := flat_mem hi
    have := ih i c hi (nam_cells he p)
    rwa [ren_cells he] at this
  | clo fn fs cs fs' cs' hl h hl' h' ih ih' =>
    have hab : namL p fs = true ∧ namL p cs = true := by
      simp only [namB] at hn
      cases ha : namL p fs with
      | false => rw [ha] at hn; cases hn
      | true => rw [ha] at hn; exact ⟨rfl, hn⟩
    exact .clo fn _ _ fs' cs' (by rw [renL_length]; exact hl) (fun i c x hc hx => by obtain ⟨c', h1, rfl⟩ := renL_get hc; exact ih i c' x h1 hx (namL_get hab.1 h1))
      (by rw [renL_length]; exact hl') (fun i c x hc hx => by obtain ⟨c', h1, rfl⟩ := renL_get hc; exact ih' i c' x h1 hx (namL_get hab.2 h1))

theorem BlkRep.ren {w w' : World} {g g' : G} {lim lim' b n : Nat} {bl : Blk} {ρ : Nat → Nat} {p : Nat → Bool} (hk : Keeps w w' g g')
    (hp : ∀ k, p k = true → (ρ k < lim' ∨ ρ k % 2 = 1) ∧ (g'.al (ρ k) → g.al k ∧ g'.be (ρ k) = g.be k ∧ g'.sz (ρ k) = g.sz k)) (h : BlkRep w g lim b n bl) (hb : 0 < n → w'.heap[b]? = w.heap[b]?)
    (hn : ∀ cs, bl = .box cs → namL p cs = true) : BlkRep w' g' lim' b n (renB ρ bl) := by
  cases bl with
  | box cs =>
    obtain ⟨h0, c, ty, h1, h2, h3, h4⟩ := h
    exact ⟨h0, c, ty, (hb h0).trans h1, h2, by rw [renL_length]; exact h3, fun i a x ha hx => by
      obtain ⟨a', h5, rfl⟩ := renL_get ha
      exact (h4 i a' x h5 hx).ren hk hp (namL_get (hn cs rfl) h5)⟩
  | row t l =>
    rcases h with h0 | ⟨h0, c, ty, h1, h2, h3, h4⟩
    · exact .inl h0
    refine .inr ⟨h0, c, ty, (hb h0).trans h1, h2, h3, fun i a x ha hx => ?_⟩
    obtain ⟨e, he⟩ := flat_mem ha
    have := (h4 i a x ha hx).ren hk hp (nam_cells he p)
    rwa [ren_cells he] at this

end Eng
