/- WHAT AN ABSTRACT VALUE STANDS FOR IN A WORLD; how that is kept while memory grows and own blocks are written. -/
import Derived.Test.YtdbnihckckekcaaDat
set_option linter.unusedSimpArgs false
set_option linter.unusedVariables false
namespace Eng
open Go Go.RowKit

/-- 'ro': blocks that nobody writes any more; 'no': blocks of others, which stay as they are; 'al': own blocks (by number) that are in use; 'be': which block it is; 'sz': of how many cells. -/
structure G where
  ro : Nat → Prop
  no : Nat → Prop
  al : Nat → Prop
  be : Nat → Nat
  sz : Nat → Nat

inductive Rep (w : World) (g : G) (lim : Nat) : AV → Value → Prop where
  | top (x : Value) : Rep w g lim .top x
  | tt : Rep w g lim .tt (.bool true)
  | ff : Rep w g lim .ff (.bool false)
  | emp (t : Ty) (a : Option Addr) : Rep w g lim (.emp t) (.slice a 0 0)
  | bl (p q : Prop) (b : Bool) (hp : b = true → p) (hq : b = false → q) : Rep w g lim (.bl p q) (.bool b)
  | lit (v : Value) : Rep w g lim (.lit v) v
  | agg (cs : List AV) (xs : Array Value) (hl : cs.length = xs.size) (h : ∀ (i : Nat) c x, cs[i]? = some c → xs[i]? = some x → Rep w g lim c x) : Rep w g lim (.agg cs) (.agg xs)
  | tup (cs : List AV) (xs : Array Value) (hl : cs.length = xs.size) (h : ∀ (i : Nat) c x, cs[i]? = some c → xs[i]? = some x → Rep w g lim c x) : Rep w g lim (.tup cs) (.tuple xs)
  | vecE (t : Ty) (a : Option Addr) (cap : Nat) : Rep w g lim (.vec t []) (.slice a 0 cap)
  | vec (t : Ty) (l : List (El t)) (b o cap : Nat) (xs : Nat → Value) (hc : l.length ≤ cap) (hr : g.ro b)
      (hw : ∀ (i : Nat) c, (flat t l)[i]? = some c → w.cell? ⟨b, o + i, none⟩ = some (xs i)) (h : ∀ (i : Nat) c, (flat t l)[i]? = some c → Rep w g lim c (xs i)) :
      Rep w g lim (.vec t l) (.slice (some ⟨b, o, none⟩) l.length cap)
  | own (t : Ty) (k off len b cap : Nat) (c : Option Nat) (hk : k < lim ∨ k % 2 = 1) (hc : len ≤ cap) (hcc : ∀ n, c = some n → cap = n) (h : g.al k → b = g.be k ∧ (off + cap) * csz t ≤ g.sz k) :
      Rep w g lim (.own t k off len c) (.slice (some ⟨b, off * csz t, none⟩) len cap)
  | ownE (t : Ty) (k off : Nat) (c : Option Nat) (ad : Option Addr) (hk : k < lim ∨ k % 2 = 1) (hcc : ∀ n, c = some n → n = 0) : Rep w g lim (.own t k off 0 c) (.slice ad 0 0)
  | ptr (k off b : Nat) (hk : k < lim ∨ k % 2 = 1) (h : g.al k → b = g.be k) : Rep w g lim (.ptr k off) (.pointer (some ⟨b, off, none⟩))
  | rptr (t : Ty) (k i off b : Nat) (hk : k < lim ∨ k % 2 = 1) (h : g.al k → b = g.be k) : Rep w g lim (.rptr t k i off) (.pointer (some ⟨b, i * csz t + off, none⟩))
  | vptr (t : Ty) (l : List (El t)) (i off b o : Nat) (xs : Nat → Value) (hr : g.ro b)
      (hw : ∀ (i : Nat) c, (flat t l)[i]? = some c → w.cell? ⟨b, o + i, none⟩ = some (xs i)) (h : ∀ (i : Nat) c, (flat t l)[i]? = some c → Rep w g lim c (xs i)) :
      Rep w g lim (.vptr t l i off) (.pointer (some ⟨b, o + (i * csz t + off), none⟩))
  | clo (fn : Fn) (fs cs : List AV) (fs' cs' : Array Value) (hl : fs.length = fs'.size) (h : ∀ (i : Nat) c x, fs[i]? = some c → fs'[i]? = some x → Rep w g lim c x)
      (hl' : cs.length = cs'.size) (h' : ∀ (i : Nat) c x, cs[i]? = some c → cs'[i]? = some x → Rep w g lim c x) : Rep w g lim (.clo fn fs cs) (.func fn fs' cs')

/-- One value stands for whatever another one stands for. -/
def Le (c c' : AV) : Prop := ∀ (w : World) (g : G) (lim : Nat) (x : Value), Rep w g lim c x → Rep w g lim c' x
theorem Le.refl (c : AV) : Le c c := fun _ _ _ _ h => h

mutual
/-- Does a value name an own block? -/
def men (k : Nat) : AV → Bool
  | .own _ j _ _ _ => Nat.beq j k
  | .ptr j _ => Nat.beq j k
  | .rptr _ j _ _ => Nat.beq j k
  | .agg cs => menL k cs
  | .tup cs => menL k cs
  | .clo _ a b => match menL k a with | true => true | false => menL k b
  | _ => false
def menL (k : Nat) : List AV → Bool
  | [] => false
  | c :: r => match men k c with | true => true | false => menL k r
end

mutual
/-- What names an own block is forgotten. -/
def fgt (k : Nat) : AV → AV
  | .own t j o n c => match Nat.beq j k with | true => .top | false => .own t j o n c
  | .ptr j o => match Nat.beq j k with | true => .top | false => .ptr j o
  | .rptr t j i o => match Nat.beq j k with | true => .top | false => .rptr t j i o
  | .agg cs => .agg (fgtL k cs)
  | .tup cs => .tup (fgtL k cs)
  | .clo f a b => .clo f (fgtL k a) (fgtL k b)
  | v => v
def fgtL (k : Nat) : List AV → List AV
  | [] => []
  | c :: r => fgt k c :: fgtL k r
end

theorem menL_get {k : Nat} {cs : List AV} {i : Nat} {c : AV} (h : cs[i]? = some c) (hm : men k c = true) : menL k cs = true := by
  induction cs generalizing i with
  | nil => simp at h
  | cons a r ih =>
    simp only [menL]
    cases i with
    | zero => simp at h; subst h; simp [hm]
    | succ i =>
      simp at h
      cases men k a with
      | true => rfl
      | false => exact ih h

theorem men_cells {t : Ty} {e : El t} {c : AV} (h : c ∈ cells t e) (k : Nat) : men k c = false := by
  cases t <;> simp [cells] at h <;> (repeat' (first | (subst h; rfl) | (rcases h with h | h)))

theorem men_flat {t : Ty} {l : List (El t)} {i : Nat} {c : AV} (h : (flat t l)[i]? = some c) (k : Nat) : men k c = false := by
  have hm := List.mem_of_getElem? h
  simp only [flat, List.mem_flatMap] at hm
  obtain ⟨e, _, hc⟩ := hm
  exact men_cells hc k

/-- A world's change that leaves what is said of values: 'ro' blocks as they were; own blocks that are named and in use were so. -/
structure Keeps (w w' : World) (g g' : G) : Prop where
  ro : ∀ b, g.ro b → g'.ro b
  same : ∀ b, g.ro b → w'.heap[b]? = w.heap[b]?

theorem Rep.mono' {w w' : World} {g g' : G} {lim lim' : Nat} {v : AV} {x : Value} (hk : Keeps w w' g g') (hlim : lim ≤ lim') (h : Rep w g lim v x)
    (hal : ∀ k, men k v = true → (k < lim ∨ k % 2 = 1) → g'.al k → g.al k ∧ g'.be k = g.be k ∧ g'.sz k = g.sz k) : Rep w' g' lim' v x := by
  induction h with
  | top x => exact .top x
  | tt => exact .tt
  | ff => exact .ff
  | lit v => exact .lit v
  | agg cs xs hl h ih => exact .agg cs xs hl fun i c x hc hx => ih i c x hc hx fun k hm hkl ha => hal k (by simpa [men] using menL_get hc hm) hkl ha
  | tup cs xs hl h ih => exact .tup cs xs hl fun i c x hc hx => ih i c x hc hx fun k hm hkl ha => hal k (by simpa [men] using menL_get hc hm) hkl ha
  | vecE t a cap => exact .vecE t a cap
  | vec t l b o cap xs hc hr hw h ih =>
    exact .vec t l b o cap xs hc (hk.ro b hr) (fun i c hi => by rw [World.cell?_of_block (w := w) (hk.same b hr)]; exact hw i c hi)
      fun i c hi => ih i c hi fun k hm => by rw [men_flat hi] at hm; cases hm
  | emp t a => exact .emp t a
  | bl p q b hp hq => exact .bl p q b hp hq
  | own t k off len b cap c hkl hc hcc h =>
    exact .own t k off len b cap c (by omega) hc hcc fun ha => by
      obtain ⟨e1, e2, e3⟩ := hal k (by simp [men]) hkl ha
      rw [e2, e3]; exact h e1
  | ownE t k off c ad hkl hcc => exact .ownE t k off c ad (by omega) hcc
  | ptr k off b hkl h =>
    exact .ptr k off b (by omega) fun ha => by
      obtain ⟨e1, e2, e3⟩ := hal k (by simp [men]) hkl ha
      rw [e2]; exact h e1
  | rptr t k i off b hkl h =>
    exact .rptr t k i off b (by omega) fun ha => by
      obtain ⟨e1, e2, e3⟩ := hal k (by simp [men]) hkl ha
      rw [e2]; exact h e1
  | vptr t l i off b o xs hr hw h ih =>
    exact .vptr t l i off b o xs (hk.ro b hr) (fun i c hi => by rw [World.cell?_of_block (w := w) (hk.same b hr)]; exact hw i c hi)
      fun i c hi => ih i c hi fun k hm => by rw [men_flat hi] at hm; cases hm
  | clo fn fs cs fs' cs' hl h hl' h' ih ih' =>
    exact .clo fn fs cs fs' cs' hl (fun i c x hc hx => ih i c x hc hx fun k hm hkl ha => hal k (by simp [men, menL_get hc hm]) hkl ha)
      hl' (fun i c x hc hx => ih' i c x hc hx fun k hm hkl ha => hal k (by simp only [men, menL_get hc hm]; split <;> rfl) hkl ha)

theorem Rep.mono {w w' : World} {g g' : G} {lim lim' : Nat} {v : AV} {x : Value} (h : Rep w g lim v x) (hk : Keeps w w' g g') (hlim : lim ≤ lim')
    (hal : ∀ k, (k < lim ∨ k % 2 = 1) → g'.al k → g.al k ∧ g'.be k = g.be k ∧ g'.sz k = g.sz k) : Rep w' g' lim' v x :=
  Rep.mono' hk hlim h fun k _ hl ha => hal k hl ha

theorem fgtL_get {k : Nat} {cs : List AV} {i : Nat} {c : AV} (h : (fgtL k cs)[i]? = some c) : ∃ c', cs[i]? = some c' ∧ c = fgt k c' := by
  induction cs generalizing i with
  | nil => simp [fgtL] at h
  | cons a r ih =>
    simp only [fgtL] at h
    cases i with
    | zero => simp at h; exact ⟨a, by simp, h.symm⟩
    | succ i => simp at h; simpa using ih h

theorem fgtL_length (k : Nat) (cs : List AV) : (fgtL k cs).length = cs.length := by
  induction cs with
  | nil => rfl
  | cons a r ih => simp [fgtL, ih]

theorem Rep.fgt {w : World} {g : G} {lim : Nat} {v : AV} {x : Value} (k : Nat) (h : Rep w g lim v x) : Rep w g lim (fgt k v) x := by
  induction h with
  | top x => exact .top x
  | tt => exact .tt
  | ff => exact .ff
  | lit v => exact .lit v
  | agg cs xs hl h ih => exact .agg _ xs (by rw [fgtL_length]; exact hl) fun i c x hc hx => by obtain ⟨c', h1, rfl⟩ := fgtL_get hc; exact ih i c' x h1 hx
  | tup cs xs hl h ih => exact .tup _ xs (by rw [fgtL_length]; exact hl) fun i c x hc hx => by obtain ⟨c', h1, rfl⟩ := fgtL_get hc; exact ih i c' x h1 hx
  | vecE t a cap => exact .vecE t a cap
  | vec t l b o cap xs hc hr hw h ih => exact .vec t l b o cap xs hc hr hw h
  | emp t a => exact .emp t a
  | bl p q b hp hq => exact .bl p q b hp hq
  | own t j off len b cap c hkl hc hcc h => (simp only [Eng.fgt]; split <;> first | exact .top _ | exact .own t j off len b cap c hkl hc hcc h)
  | ownE t j off c ad hkl hcc => (simp only [Eng.fgt]; split <;> first | exact .top _ | exact .ownE t j off c ad hkl hcc)
  | ptr j off b hkl h => (simp only [Eng.fgt]; split <;> first | exact .top _ | exact .ptr j off b hkl h)
  | rptr t j i off b hkl h => (simp only [Eng.fgt]; split <;> first | exact .top _ | exact .rptr t j i off b hkl h)
  | vptr t l i off b o xs hr hw h ih => exact .vptr t l i off b o xs hr hw h
  | clo fn fs cs fs' cs' hl h hl' h' ih ih' =>
    exact .clo fn _ _ fs' cs' (by rw [fgtL_length]; exact hl) (fun i c x hc hx => by obtain ⟨c', h1, rfl⟩ := fgtL_get hc; exact ih i c' x h1 hx)
      (by rw [fgtL_length]; exact hl') (fun i c x hc hx => by obtain ⟨c', h1, rfl⟩ := fgtL_get hc; exact ih' i c' x h1 hx)

mutual
theorem men_fgt (k : Nat) : ∀ v : AV, men k (fgt k v) = false
  | .top => rfl
  | .tt => rfl
  | .ff => rfl
  | .lit _ => rfl
  | .agg cs => by simp only [fgt, men]; exact menL_fgtL k cs
  | .tup cs => by simp only [fgt, men]; exact menL_fgtL k cs
  | .vec _ _ => rfl
  | .emp _ => rfl
  | .bl _ _ => rfl
  | .own t j o n c => by simp only [fgt]; cases h : Nat.beq j k <;> simp [men, h]
  | .ptr j o => by simp only [fgt]; cases h : Nat.beq j k <;> simp [men, h]
  | .rptr t j i o => by simp only [fgt]; cases h : Nat.beq j k <;> simp [men, h]
  | .vptr _ _ _ _ => rfl
  | .clo f a b => by simp only [fgt, men]; rw [menL_fgtL k a, menL_fgtL k b]
theorem menL_fgtL (k : Nat) : ∀ cs : List AV, menL k (fgtL k cs) = false
  | [] => rfl
  | c :: r => by simp only [fgtL, menL]; rw [men_fgt k c, menL_fgtL k r]
end

/-- An own block's content. A row of no cells may be no block at all. -/
def BlkRep (w : World) (g : G) (lim : Nat) (b n : Nat) : Blk → Prop
  | .box cs => 0 < n ∧ ∃ (c : Array Value) (ty : TypeId), w.heap[b]? = some (.cells c ty (0, 0)) ∧ c.size = n ∧ cs.length = n ∧ ∀ (i : Nat) a x, cs[i]? = some a → c[i]? = some x → Rep w g lim a x
  | .row t l => (n = 0 ∧ l = []) ∨ (0 < n ∧ ∃ (c : Array Value) (ty : TypeId), w.heap[b]? = some (.cells c ty (0, 0)) ∧ c.size = n ∧ (flat t l).length ≤ n ∧ ∀ (i : Nat) a x, (flat t l)[i]? = some a → c[i]? = some x → Rep w g lim a x)

theorem flat_nil {t : Ty} {l : List (El t)} (h : (flat t l).length ≤ 0) : l = [] := by
  rw [flat_length] at h
  have h2 := csz_pos t
  cases l with
  | nil => rfl
  | cons a r => rw [List.length_cons, Nat.succ_mul] at h; omega
theorem BlkRep.mkRow {w : World} {g : G} {lim b n : Nat} {t : Ty} {l : List (El t)} (h : ∃ (c : Array Value) (ty : TypeId), w.heap[b]? = some (.cells c ty (0, 0)) ∧ c.size = n ∧ (flat t l).length ≤ n ∧ ∀ (i : Nat) a x, (flat t l)[i]? = some a → c[i]? = some x → Rep w g lim a x) : BlkRep w g lim b n (.row t l) := by
  rcases Nat.eq_zero_or_pos n with h0 | h0
  · obtain ⟨c, ty, _, _, h3, _⟩ := h
    exact .inl ⟨h0, flat_nil (by omega)⟩
  · exact .inr ⟨h0, h⟩
theorem BlkRep.getRow {w : World} {g : G} {lim b n : Nat} {t : Ty} {l : List (El t)} (h : BlkRep w g lim b n (.row t l)) (h0 : 0 < n) : ∃ (c : Array Value) (ty : TypeId), w.heap[b]? = some (.cells c ty (0, 0)) ∧ c.size = n ∧ (flat t l).length ≤ n ∧ ∀ (i : Nat) a x, (flat t l)[i]? = some a → c[i]? = some x → Rep w g lim a x := by
  rcases h with h | h
  · omega
  · exact h.2
theorem BlkRep.le {w : World} {g : G} {lim b n : Nat} {t : Ty} {l : List (El t)} (h : BlkRep w g lim b n (.row t l)) : l.length * csz t ≤ n := by
  rcases h with ⟨_, rfl⟩ | ⟨_, c, ty, _, _, h3, _⟩
  · simp
  · rw [flat_length] at h3; exact h3
theorem BlkRep.in {w : World} {g : G} {lim b n : Nat} {bl : Blk} (h : BlkRep w g lim b n bl) (h0 : 0 < n) : b < w.heap.size := by
  cases bl with
  | box cs => obtain ⟨_, c, ty, h1, _⟩ := h; exact (Array.getElem?_eq_some_iff.1 h1).1
  | row t l => obtain ⟨c, ty, h1, _⟩ := h.getRow h0; exact (Array.getElem?_eq_some_iff.1 h1).1

def menB (k : Nat) : Blk → Bool
  | .box cs => menL k cs
  | .row _ _ => false
def fgtB (k : Nat) : Blk → Blk
  | .box cs => .box (fgtL k cs)
  | .row t l => .row t l

/-- Own memory as the world has it. -/
structure MSim (w : World) (g : G) (lim : Nat) (m : Nat → Option Blk) : Prop where
  al : ∀ k, g.al k ↔ (m k).isSome
  lt : ∀ k, g.al k → k < lim ∨ k % 2 = 1
  nro : ∀ k, g.al k → 0 < g.sz k → ¬ g.ro (g.be k)
  inj : ∀ k j, g.al k → g.al j → 0 < g.sz k → 0 < g.sz j → g.be k = g.be j → k = j
  blk : ∀ k b, m k = some b → BlkRep w g lim (g.be k) (g.sz k) b
  rolt : ∀ b, g.ro b → b < w.heap.size
  nof : ∀ b, g.no b → b < w.heap.size ∧ ¬ g.ro b ∧ ∀ k, g.al k → 0 < g.sz k → g.be k ≠ b

/-- What has become of the world: nothing that nobody writes has turned. -/
structure Tr (g : G) (w w' : World) : Prop where
  os : w'.os = w.os
  tape : w'.tape = w.tape
  output : w'.output = w.output
  size : w.heap.size ≤ w'.heap.size
  same : ∀ b, g.ro b → w'.heap[b]? = w.heap[b]?
  others : ∀ b, g.no b → w'.heap[b]? = w.heap[b]?

/-- Own blocks below 'base' that are in use were so; what nobody writes stays. -/
structure LeG (base : Nat) (g g' : G) : Prop where
  ro : ∀ b, g.ro b → g'.ro b
  no : ∀ b, g.no b → g'.no b
  al : ∀ k, k < base → g'.al k → g.al k ∧ g'.be k = g.be k ∧ g'.sz k = g.sz k

theorem Tr.refl (g : G) (w : World) : Tr g w w := ⟨rfl, rfl, rfl, Nat.le_refl _, fun _ _ => rfl, fun _ _ => rfl⟩
theorem Tr.trans {g g' : G} {base : Nat} {w w' w'' : World} (h : Tr g w w') (hg : LeG base g g') (h' : Tr g' w' w'') : Tr g w w'' :=
  ⟨h'.os.trans h.os, h'.tape.trans h.tape, h'.output.trans h.output, Nat.le_trans h.size h'.size, fun b hb => (h'.same b (hg.ro b hb)).trans (h.same b hb), fun b hb => (h'.others b (hg.no b hb)).trans (h.others b hb)⟩
theorem LeG.refl (base : Nat) (g : G) : LeG base g g := ⟨fun _ h => h, fun _ h => h, fun _ _ h => ⟨h, rfl, rfl⟩⟩
theorem LeG.trans {base : Nat} {g g' g'' : G} (h : LeG base g g') (h' : LeG base g' g'') : LeG base g g'' :=
  ⟨fun b hb => h'.ro b (h.ro b hb), fun b hb => h'.no b (h.no b hb), fun k hk ha => by
    obtain ⟨a1, a2, a3⟩ := h'.al k hk ha
    obtain ⟨b1, b2, b3⟩ := h.al k hk a1
    exact ⟨b1, a2.trans b2, a3.trans b3⟩⟩
theorem LeG.mono {base base' : Nat} {g g' : G} (h : LeG base g g') (hb : base' ≤ base) : LeG base' g g' :=
  ⟨h.ro, h.no, fun k hk ha => h.al k (by omega) ha⟩
theorem LeG.keeps {base : Nat} {g g' : G} {w w' : World} (h : LeG base g g') (ht : Tr g w w') : Keeps w w' g g' := ⟨h.ro, ht.same⟩

/-- The list of a frame's, or of arguments', values. -/
def RepL (w : World) (g : G) (lim : Nat) (cs : List AV) (xs : Array Value) : Prop :=
  cs.length = xs.size ∧ ∀ (i : Nat) c x, cs[i]? = some c → xs[i]? = some x → Rep w g lim c x

theorem RepL.mono {w w' : World} {g g' : G} {lim lim' : Nat} {cs : List AV} {xs : Array Value} (h : RepL w g lim cs xs) (hk : Keeps w w' g g') (hlim : lim ≤ lim')
    (hal : ∀ k, (k < lim ∨ k % 2 = 1) → g'.al k → g.al k ∧ g'.be k = g.be k ∧ g'.sz k = g.sz k) : RepL w' g' lim' cs xs :=
  ⟨h.1, fun i c x hc hx => (h.2 i c x hc hx).mono hk hlim hal⟩

end Eng
