/- ROWS, first part: lists of elements as cells; element types compared; what an append's second operand yields; an own row under another number. -/
import Derived.Test.YtdbnihckckekcaaOpsB
import Derived.Deep.AppendSrc
import Derived.Laws.MakeOwn
set_option linter.unusedSimpArgs false
set_option linter.unusedVariables false
namespace Eng
open Go Go.RowKit

theorem flat_append (t : Ty) (a b : List (El t)) : flat t (a ++ b) = flat t a ++ flat t b := by simp [flat]
theorem flat_take (t : Ty) (l : List (El t)) (n : Nat) : flat t (l.take n) = (flat t l).take (n * csz t) := by
  induction l generalizing n with
  | nil => simp [flat]
  | cons a r ih =>
    cases n with
    | zero => simp [flat]
    | succ n =>
      have h1 : flat t (a :: r) = cells t a ++ flat t r := by simp [flat]
      have h2 : flat t ((a :: r).take (n + 1)) = cells t a ++ flat t (r.take n) := by simp [flat]
      have hl : (cells t a).length = csz t := cells_length t a
      have e1 : (cells t a).take ((n + 1) * csz t) = cells t a := List.take_of_length_le (by rw [hl, Nat.succ_mul]; omega)
      have e2 : (n + 1) * csz t - (cells t a).length = n * csz t := by rw [hl, Nat.succ_mul]; omega
      rw [h1, h2, ih, List.take_append, e1, e2]
theorem flat_drop (t : Ty) (l : List (El t)) (n : Nat) : flat t (l.drop n) = (flat t l).drop (n * csz t) := by
  induction l generalizing n with
  | nil => simp [flat]
  | cons a r ih =>
    cases n with
    | zero => simp [flat]
    | succ n =>
      have h1 : flat t (a :: r) = cells t a ++ flat t r := by simp [flat]
      have h2 : flat t ((a :: r).drop (n + 1)) = flat t (r.drop n) := by simp [flat]
      have hl : (cells t a).length = csz t := cells_length t a
      have e1 : (cells t a).drop ((n + 1) * csz t) = [] := List.drop_eq_nil_of_le (by rw [hl, Nat.succ_mul]; omega)
      have e2 : (n + 1) * csz t - (cells t a).length = n * csz t := by rw [hl, Nat.succ_mul]; omega
      rw [h1, h2, ih, List.drop_append, e1, e2, List.nil_append]

theorem one_cells {t : Ty} {e : El t} {c : AV} (h : c ∈ cells t e) : one c = true := by
  cases t <;> simp [cells] at h <;> (repeat' (first | (subst h; rfl) | (rcases h with h | h)))
theorem one_flat {t : Ty} {l : List (El t)} {i : Nat} {c : AV} (h : (flat t l)[i]? = some c) : one c = true := by
  have hm := List.mem_of_getElem? h
  simp only [flat, List.mem_flatMap] at hm
  obtain ⟨e, _, hc⟩ := hm
  exact one_cells hc

def tyN : Ty → Nat
  | .u8 => 0 | .i64 => 1 | .slot => 2 | .heap => 3 | .box => 4 | .chunk => 5 | .player => 6 | .seen => 7 | .cmd => 8 | .order => 9 | .reply => 10 | .step => 11 | .recipe => 12 | .ints => 13 | .orders => 14
def tyB (a b : Ty) : Bool := Nat.beq (tyN a) (tyN b)
theorem tyB_ok {a b : Ty} (h : tyB a b = true) : a = b := by cases a <;> cases b <;> first | rfl | (cases h; done)

def castL : (a b : Ty) → List (El a) → Option (List (El b))
  | .u8, .u8, l => some l
  | .i64, .i64, l => some l
  | .slot, .slot, l => some l
  | .heap, .heap, l => some l
  | .box, .box, l => some l
  | .chunk, .chunk, l => some l
  | .player, .player, l => some l
  | .seen, .seen, l => some l
  | .cmd, .cmd, l => some l
  | .order, .order, l => some l
  | .reply, .reply, l => some l
  | .step, .step, l => some l
  | .recipe, .recipe, l => some l
  | .ints, .ints, l => some l
  | .orders, .orders, l => some l
  | _, _, _ => none
theorem castL_ok {a b : Ty} {l : List (El a)} {l' : List (El b)} (h : castL a b l = some l') : ∃ e : a = b, l' = e ▸ l := by
  cases a <;> cases b <;> simp [castL] at h <;> exact ⟨rfl, h.symm⟩
def asK (a b : Ty) (l : List (El a)) (K : List (El b) → Prop) : Prop := match castL a b l with | some l => K l | none => False
theorem asK_ok {a b : Ty} {l : List (El a)} {K : List (El b) → Prop} (h : asK a b l K) : ∃ e : a = b, K (e ▸ l) := by
  unfold asK at h
  cases hc : castL a b l with
  | none => rw [hc] at h; exact h.elim
  | some l' => rw [hc] at h; obtain ⟨e, rfl⟩ := castL_ok hc; exact ⟨e, h⟩

/-- A list of elements, out of what a slice value stands for: the list, what was read. -/
def srcK (m : Mem) (tt : Ty) (v : AV) (K : List (El tt) → List (Nat × Blk) → Prop) : Prop :=
  match v with
  | .vec t l => asK t tt l fun l => K l []
  | .own t k off n _ => memK m k fun b => match b with
    | .row t' l => match tyB t t' with
      | true => asK t' tt l fun l' => off + n ≤ l'.length ∧ K ((l'.drop off).take n) [(k, .row t' l)]
      | false => False
    | .box _ => False
  | .lit (.slice none 0 _) => K [] []
  | .emp _ => K [] []
  | _ => False

/-- What a slice value yields. -/
structure Yields2 (w : World) (g : G) (lim : Nat) (tt : Ty) (x : Value) (l : List (El tt)) (news : List Value) : Prop where
  rep : RepL w g lim (flat tt l) news.toArray
  one : ∀ u ∈ news, u.oneCell' = true
  at_ : (∃ ad cap, x = .slice (some ad) l.length cap ∧ ∀ (j : Nat) u, news[j]? = some u → w.cell? (ad.add j) = some u) ∨ (∃ cap, x = .slice none 0 cap ∧ l = [] ∧ news = [])

theorem Yields2.len {w : World} {g : G} {lim : Nat} {tt : Ty} {x : Value} {l : List (El tt)} {news : List Value} (h : Yields2 w g lim tt x l news) : news.length = l.length * csz tt := by
  have := h.rep.1; rw [flat_length] at this; simpa using this.symm

theorem Yields2.src {P : Program} {w : World} {g : G} {lim : Nat} {tt : Ty} {x : Value} {l : List (El tt)} {news : List Value} (h : Yields2 w g lim tt x l news) {tx e : TypeId} (hk : P.underlying tx = some (.slice e)) :
    Src P (csz tt) tx x l.length news w := by
  rcases h.at_ with ⟨ad, cap, rfl, h1⟩ | ⟨cap, rfl, rfl, rfl⟩
  · exact Src.ofSlice w hk ad _ _ _ h.len h1 h.one
  · exact Src.ofNil w hk cap

theorem news_of {w : World} {g : G} {lim : Nat} {tt : Ty} (l : List (El tt)) (xs : Nat → Value) (hr : ∀ (i : Nat) c, (flat tt l)[i]? = some c → Rep w g lim c (xs i)) :
    ∃ news : List Value, RepL w g lim (flat tt l) news.toArray ∧ (∀ u ∈ news, u.oneCell' = true) ∧ (∀ (j : Nat) u, news[j]? = some u → u = xs j ∧ j < (flat tt l).length) := by
  refine ⟨(List.range (flat tt l).length).map xs, ⟨by simp, fun i c x hc hx => ?_⟩, fun u hu => ?_, fun j u hu => ?_⟩
  · have hlt := (List.getElem?_eq_some_iff.1 hc).1
    simp [List.getElem?_range hlt] at hx
    subst hx; exact hr i c hc
  · obtain ⟨i, hi, rfl⟩ := List.mem_map.1 hu
    have hlt := List.mem_range.1 hi
    exact one_ok (hr i _ (List.getElem?_eq_getElem hlt)) (one_flat (List.getElem?_eq_getElem hlt))
  · have hlt : j < (flat tt l).length := by have := (List.getElem?_eq_some_iff.1 hu).1; simpa using this
    simp [List.getElem?_range hlt] at hu
    exact ⟨hu.symm, hlt⟩

theorem srcK_ok {m : Mem} {tt : Ty} {v : AV} {K : List (El tt) → List (Nat × Blk) → Prop} (h : srcK m tt v K) : ∃ l rd, K l rd ∧ (∀ p ∈ rd, mget m p.1 = some p.2) ∧
    ∀ (m' : Nat → Option Blk) (w : World) (g : G) (lim : Nat) (x : Value), MSim w g lim m' → (∀ p ∈ rd, m' p.1 = some p.2) → Rep w g lim v x → ∃ news, Yields2 w g lim tt x l news := by
  unfold srcK at h
  split at h
  · rename_i t l
    obtain ⟨e, h⟩ := asK_ok h
    subst e
    refine ⟨_, _, h, by simp, fun m' w g lim x hm hrd hr => ?_⟩
    cases hr with
    | vecE _ ad cap =>
      refine ⟨[], ⟨rfl, fun i c x hc => by simp [flat] at hc⟩, by simp, ?_⟩
      cases ad with
      | none => exact .inr ⟨cap, rfl, rfl, rfl⟩
      | some ad => exact .inl ⟨ad, cap, rfl, by simp⟩
    | vec _ _ b o cap xs hc hro hw hh =>
      obtain ⟨news, n1, n2, n3⟩ := news_of l xs hh
      refine ⟨news, n1, n2, .inl ⟨_, cap, rfl, fun j u hu => ?_⟩⟩
      obtain ⟨rfl, hlt⟩ := n3 j u hu
      rw [add_none]
      exact hw j _ (List.getElem?_eq_getElem hlt)
  · rename_i t k off n cc
    obtain ⟨b, hb, h⟩ := memK_ok h
    cases b with
    | box cs => exact h.elim
    | row t' l =>
      simp only at h
      cases ht : tyB t t' with
      | false => rw [ht] at h; exact h.elim
      | true =>
      rw [ht] at h
      have e1 := tyB_ok ht
      subst e1
      obtain ⟨e, h⟩ := asK_ok h
      subst e
      obtain ⟨hlen, h⟩ := h
      refine ⟨_, _, h, by simp [hb], fun m' w g lim x hm hrd hr => ?_⟩
      have hmk : m' k = some (.row t l) := hrd (k, .row t l) (by simp)
      have hal : g.al k := (hm.al k).2 (by simp [hmk])
      have hlen' : off + n ≤ l.length := hlen
      by_cases hn0 : n = 0
      · subst hn0
        refine ⟨[], ⟨by simp [flat], fun i c x hc => by simp [flat] at hc⟩, by simp, ?_⟩
        cases hr with
        | own _ _ _ _ b cap _ hk hc hcc hh => exact .inl ⟨⟨b, off * csz t, none⟩, cap, by simp, by simp⟩
        | ownE _ _ _ _ ad _ _ =>
          cases ad with
          | none => exact .inr ⟨0, rfl, by simp, rfl⟩
          | some ad => exact .inl ⟨ad, 0, by simp, by simp⟩
      have hbr := hm.blk k _ hmk
      obtain ⟨c, ty, b1, b2, b3, b4⟩ := hbr.getRow (Nat.lt_of_lt_of_le (Nat.mul_pos (by omega) (csz_pos t)) hbr.le)
      rw [flat_length] at b3
      have hmul : (off + n) * csz t ≤ l.length * csz t := Nat.mul_le_mul_right _ hlen'
      rw [Nat.add_mul] at hmul
      have hflat : flat t ((l.drop off).take n) = ((flat t l).drop (off * csz t)).take (n * csz t) := by rw [flat_take, flat_drop]
      have hget : ∀ (i : Nat) a, (flat t ((l.drop off).take n))[i]? = some a → (flat t l)[off * csz t + i]? = some a ∧ i < n * csz t := by
        intro i a hi
        rw [hflat] at hi
        rw [List.getElem?_take] at hi
        split at hi
        · rename_i hlt; rw [List.getElem?_drop] at hi; exact ⟨hi, hlt⟩
        · cases hi
      obtain ⟨news, n1, n2, n3⟩ := news_of (w := w) (g := g) (lim := lim) ((l.drop off).take n) (fun i => (c[off * csz t + i]?).getD undef) (fun i a hi => by
        obtain ⟨h1, h2⟩ := hget i a hi
        have hlt : off * csz t + i < c.size := by omega
        rw [Array.getElem?_eq_getElem hlt]
        exact b4 _ a _ h1 (Array.getElem?_eq_getElem hlt))
      cases hr with
      | own _ _ _ _ b cap _ hk hc hcc hh =>
        obtain ⟨rfl, _⟩ := hh hal
        refine ⟨news, n1, n2, .inl ⟨⟨g.be k, off * csz t, none⟩, cap, by simp; omega, fun j u hu => ?_⟩⟩
        obtain ⟨rfl, hlt⟩ := n3 j u hu
        have hj : j < n * csz t := by have := hflat ▸ hlt; simp at this; omega
        have hlt2 : off * csz t + j < c.size := by omega
        rw [add_none, cell_of_row w _ _ c ty _ b1, Array.getElem?_eq_getElem hlt2]
        simp
      | ownE _ _ _ _ _ _ _ => exact absurd rfl hn0
  · exact ⟨_, _, h, by simp, fun m' w g lim x hm hrd hr => by rw [rep_lit hr]; exact ⟨[], ⟨rfl, fun i c x hc => by simp [flat] at hc⟩, by simp, .inr ⟨_, rfl, rfl, rfl⟩⟩⟩
  · refine ⟨_, _, h, by simp, fun m' w g lim x hm hrd hr => ?_⟩
    cases hr with
    | emp _ ad =>
      refine ⟨[], ⟨rfl, fun i c x hc => by simp [flat] at hc⟩, by simp, ?_⟩
      cases ad with
      | none => exact .inr ⟨0, rfl, rfl, rfl⟩
      | some ad => exact .inl ⟨ad, 0, rfl, by simp⟩
  · exact h.elim

/-! ### An own block under another number -/
def G.ren (g : G) (k j : Nat) : G := (g.kill k).bind j (g.be k) (g.sz k)

theorem RepL.ren {w : World} {g : G} {lim k j : Nat} {f : List AV} {xs : Array Value} (h : RepL w g lim f xs) (hm : menL j f = false) : RepL w (g.ren k j) lim f xs :=
  ⟨h.1, fun i c x hc hx => Rep.mono' (g := g) (g' := g.ren k j) ⟨fun b hr => hr, fun _ _ => rfl⟩ (Nat.le_refl _) (h.2 i c x hc hx) fun i2 hi2 _ ha => by
    have hij : i2 ≠ j := fun e => by
      subst e
      rw [menL_get hc hi2] at hm; cases hm
    rcases ha with e | ha
    · exact absurd e hij
    · exact ⟨ha.2, by simp [G.ren, G.bind, G.kill, hij], by simp [G.ren, G.bind, G.kill, hij]⟩⟩

theorem MSim.ren {w : World} {g : G} {lim : Nat} {m : Nat → Option Blk} (h : MSim w g lim m) {k j : Nat} (hj : j < lim ∨ j % 2 = 1) {bl : Blk} (hk : m k = some bl) (hm : ∀ i b, m i = some b → menB j b = false) :
    MSim w (g.ren k j) lim (put (put m k none) j (some bl)) := by
  have hal : g.al k := (h.al k).2 (by simp [hk])
  have hbe : ∀ i, i ≠ j → (g.ren k j).be i = g.be i ∧ (g.ren k j).sz i = g.sz i := fun i hi => ⟨by simp [G.ren, G.bind, G.kill, hi], by simp [G.ren, G.bind, G.kill, hi]⟩
  have hbj : (g.ren k j).be j = g.be k ∧ (g.ren k j).sz j = g.sz k := ⟨by simp [G.ren, G.bind], by simp [G.ren, G.bind]⟩
  have halr : ∀ i, (g.ren k j).al i ↔ (i = j ∨ (i ≠ k ∧ g.al i)) := fun i => Iff.rfl
  have hrep : ∀ (b : Blk) (n s : Nat), menB j b = false → BlkRep w g lim n s b → BlkRep w (g.ren k j) lim n s b := fun b n s hb hr =>
    hr.mono' ⟨fun _ h => h, fun _ _ => rfl⟩ (Nat.le_refl _) (fun _ => rfl) fun i hi _ ha => by
      have hij : i ≠ j := fun e => by subst e; rw [hb] at hi; cases hi
      rcases (halr i).1 ha with e | ha
      · exact absurd e hij
      · exact ⟨ha.2, hbe i hij⟩
  refine ⟨fun i => ?_, fun i hi => ?_, fun i hi hz hr => ?_, fun i i2 hi hi2 hz hz2 he => ?_, fun i b hb => ?_, h.rolt, fun b hb => ⟨(h.nof b hb).1, (h.nof b hb).2.1, fun i hi hz => ?_⟩⟩
  · rw [halr]
    by_cases hij : j = i
    · subst hij; simp [put]
    · by_cases hik : k = i
      · subst hik
        refine ⟨fun ha => ?_, fun ha => ?_⟩
        · rcases ha with e | ha
          · exact absurd e.symm hij
          · exact absurd rfl ha.1
        · simp [put, hij] at ha
      · have h1 : put (put m k none) j (some bl) i = m i := by simp [put, hij, hik]
        rw [h1, ← h.al i]
        refine ⟨fun ha => ?_, fun ha => .inr ⟨fun e => hik e.symm, ha⟩⟩
        rcases ha with e | ha
        · exact absurd e.symm hij
        · exact ha.2
  · rcases (halr i).1 hi with rfl | hi
    · exact hj
    · exact h.lt i hi.2
  · by_cases hij : i = j
    · subst hij; rw [hbj.1] at hr; rw [hbj.2] at hz; exact h.nro k hal hz hr
    · rcases (halr i).1 hi with e | hi
      · exact absurd e hij
      · rw [(hbe i hij).1] at hr; rw [(hbe i hij).2] at hz; exact h.nro i hi.2 hz hr
  · by_cases hij : i = j <;> by_cases hij2 : i2 = j
    · exact hij.trans hij2.symm
    · subst hij
      rcases (halr i2).1 hi2 with e | hi2
      · exact absurd e hij2
      · rw [hbj.1, (hbe i2 hij2).1] at he
        rw [hbj.2] at hz
        rw [(hbe i2 hij2).2] at hz2
        exact absurd (h.inj k i2 hal hi2.2 hz hz2 he).symm hi2.1
    · subst hij2
      rcases (halr i).1 hi with e | hi
      · exact absurd e hij
      · rw [hbj.1, (hbe i hij).1] at he
        rw [hbj.2] at hz2
        rw [(hbe i hij).2] at hz
        exact absurd (h.inj i k hi.2 hal hz hz2 he) hi.1
    · rcases (halr i).1 hi with e | hi
      · exact absurd e hij
      rcases (halr i2).1 hi2 with e | hi2
      · exact absurd e hij2
      rw [(hbe i hij).1, (hbe i2 hij2).1] at he
      rw [(hbe i hij).2] at hz
      rw [(hbe i2 hij2).2] at hz2
      exact h.inj i i2 hi.2 hi2.2 hz hz2 he
  · unfold put at hb
    split at hb
    · rename_i e; subst e; cases hb
      rw [hbj.1, hbj.2]
      exact hrep bl _ _ (hm k bl hk) (h.blk k bl hk)
    · rename_i hij
      split at hb
      · cases hb
      · rw [(hbe i (fun e => hij e.symm)).1, (hbe i (fun e => hij e.symm)).2]
        exact hrep b _ _ (hm i b hb) (h.blk i b hb)
  · by_cases hij : i = j
    · subst hij; rw [hbj.1]; rw [hbj.2] at hz; exact (h.nof b hb).2.2 k hal hz
    · rcases (halr i).1 hi with e | hi
      · exact absurd e hij
      · rw [(hbe i hij).1]; rw [(hbe i hij).2] at hz; exact (h.nof b hb).2.2 i hi.2 hz

theorem LeG.kill (base : Nat) (g : G) (k : Nat) : LeG base g (g.kill k) := ⟨fun _ h => h, fun _ h => h, fun _ _ ha => ⟨ha.2, rfl, rfl⟩⟩
theorem LeG.ren {base : Nat} {g : G} {k j : Nat} (hj : base ≤ j) : LeG base g (g.ren k j) :=
  ⟨fun _ h => h, fun _ h => h, fun i hi ha => by
    have hij : i ≠ j := by omega
    rcases ha with e | ha
    · exact absurd e hij
    · exact ⟨ha.2, by simp [G.ren, G.bind, G.kill, hij], by simp [G.ren, G.bind, G.kill, hij]⟩⟩

end Eng
