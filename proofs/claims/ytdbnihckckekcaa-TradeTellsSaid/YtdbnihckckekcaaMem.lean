/- HOW OWN MEMORY CHANGES: a new block, a block written, a block given up, a block that nobody writes any more. -/
import Derived.Test.YtdbnihckckekcaaRep
set_option linter.unusedSimpArgs false
set_option linter.unusedVariables false
namespace Eng
open Go Go.RowKit

/-- A frame, own memory and a world that fit. -/
structure Sim (w : World) (g : G) (lim : Nat) (f : List AV) (m : Nat → Option Blk) (a : Act) : Prop where
  fr : RepL w g lim f a.tmps
  df : a.defers = []
  me : MSim w g lim m

/-- Own memory with what names a block forgotten. -/
def fgtM (k : Nat) (m : Nat → Option Blk) : Nat → Option Blk := fun j => (m j).map (fgtB k)
def put (m : Nat → Option Blk) (k : Nat) (b : Option Blk) : Nat → Option Blk := fun j => if k = j then b else m j

theorem BlkRep.mono' {w w' : World} {g g' : G} {lim lim' b n : Nat} {bl : Blk} (h : BlkRep w g lim b n bl) (hk : Keeps w w' g g') (hlim : lim ≤ lim')
    (hb : 0 < n → w'.heap[b]? = w.heap[b]?) (hal : ∀ k, menB k bl = true → (k < lim ∨ k % 2 = 1) → g'.al k → g.al k ∧ g'.be k = g.be k ∧ g'.sz k = g.sz k) : BlkRep w' g' lim' b n bl := by
  cases bl with
  | box cs =>
    obtain ⟨h0, c, ty, h1, h2, h3, h4⟩ := h
    exact ⟨h0, c, ty, (hb h0).trans h1, h2, h3, fun i a x ha hx => (h4 i a x ha hx).mono' hk hlim fun k hm => hal k (by simpa [menB] using menL_get ha hm)⟩
  | row t l =>
    rcases h with h | ⟨h0, c, ty, h1, h2, h3, h4⟩
    · exact .inl h
    exact .inr ⟨h0, c, ty, (hb h0).trans h1, h2, h3, fun i a x ha hx => (h4 i a x ha hx).mono' hk hlim fun k hm => by rw [men_flat ha] at hm; cases hm⟩

theorem BlkRep.fgt {w : World} {g : G} {lim b n : Nat} {bl : Blk} (k : Nat) (h : BlkRep w g lim b n bl) : BlkRep w g lim b n (fgtB k bl) := by
  cases bl with
  | box cs =>
    obtain ⟨h0, c, ty, h1, h2, h3, h4⟩ := h
    exact ⟨h0, c, ty, h1, h2, by rw [fgtL_length]; exact h3, fun i a x ha hx => by obtain ⟨a', h5, rfl⟩ := fgtL_get ha; exact (h4 i a' x h5 hx).fgt k⟩
  | row t l => exact h

theorem menB_fgtB (k : Nat) (b : Blk) : menB k (fgtB k b) = false := by
  cases b with
  | box cs => exact menL_fgtL k cs
  | row t l => rfl

theorem RepL.fgt {w : World} {g : G} {lim : Nat} {f : List AV} {xs : Array Value} (k : Nat) (h : RepL w g lim f xs) : RepL w g lim (fgtL k f) xs :=
  ⟨by rw [fgtL_length]; exact h.1, fun i c x hc hx => by obtain ⟨c', h1, rfl⟩ := fgtL_get hc; exact (h.2 i c' x h1 hx).fgt k⟩

theorem MSim.fgt {w : World} {g : G} {lim : Nat} {m : Nat → Option Blk} (k : Nat) (h : MSim w g lim m) : MSim w g lim (fgtM k m) :=
  ⟨fun j => by rw [h.al j]; simp [fgtM], h.lt, h.nro, h.inj, fun j b hb => by
    simp only [fgtM, Option.map_eq_some_iff] at hb
    obtain ⟨b', h1, rfl⟩ := hb
    exact (h.blk j b' h1).fgt k, h.rolt, h.nof⟩

theorem Sim.fgt {w : World} {g : G} {lim : Nat} {f : List AV} {m : Nat → Option Blk} {a : Act} (k : Nat) (h : Sim w g lim f m a) : Sim w g lim (fgtL k f) (fgtM k m) a :=
  ⟨h.fr.fgt k, h.df, h.me.fgt k⟩

/-- A slot is written. -/
def fput (f : List AV) (d : Option Nat) (v : AV) : List AV := match d with | some d => f.set d v | none => f

theorem RepL.put {w : World} {g : G} {lim : Nat} {f : List AV} {a : Act} {v : AV} {x : Value} (h : RepL w g lim f a.tmps) (hv : Rep w g lim v x) (d : Option Nat) :
    RepL w g lim (fput f d v) (a.put d x).tmps := by
  cases d with
  | none => exact h
  | some d =>
    refine ⟨by simp [fput, Act.put, h.1], fun i c y hc hy => ?_⟩
    simp only [fput] at hc
    simp only [Act.put] at hy
    by_cases hd : d = i
    · subst hd
      rw [List.getElem?_set] at hc
      rw [Array.getElem?_setIfInBounds] at hy
      simp at hc hy
      obtain ⟨_, rfl⟩ := hc
      obtain ⟨_, rfl⟩ := hy
      exact hv
    · rw [List.getElem?_set_ne hd] at hc
      rw [Array.getElem?_setIfInBounds_ne hd] at hy
      exact h.2 i c y hc hy

theorem Act.put_df (a : Act) (d : Option Nat) (x : Value) : (a.put d x).defers = a.defers := by cases d <;> rfl

theorem Sim.put {w : World} {g : G} {lim : Nat} {f : List AV} {m : Nat → Option Blk} {a : Act} {v : AV} {x : Value} (h : Sim w g lim f m a) (hv : Rep w g lim v x) (d : Option Nat) :
    Sim w g lim (fput f d v) m (a.put d x) :=
  ⟨h.fr.put hv d, (Act.put_df a d x).trans h.df, h.me⟩

/-- The ghost of a block laid under number k. -/
def G.bind (g : G) (k b n : Nat) : G := { ro := g.ro, no := g.no, al := fun j => j = k ∨ g.al j, be := fun j => if j = k then b else g.be j, sz := fun j => if j = k then n else g.sz j }
def G.kill (g : G) (k : Nat) : G := { g with al := fun j => j ≠ k ∧ g.al j }
def G.freeze (g : G) (k : Nat) : G := { g with al := fun j => j ≠ k ∧ g.al j, ro := fun b => g.ro b ∨ (0 < g.sz k ∧ b = g.be k) }

theorem put_self (m : Nat → Option Blk) (k : Nat) (b : Option Blk) : put m k b k = b := by simp [put]
theorem put_ne (m : Nat → Option Blk) {k j : Nat} (b : Option Blk) (h : k ≠ j) : put m k b j = m j := by simp [put, h]

/-- A NEW BLOCK under a number that nothing names. -/
theorem MSim.push {w : World} {g : G} {lim : Nat} {m : Nat → Option Blk} (h : MSim w g lim m) {k : Nat} (hk : k < lim ∨ k % 2 = 1) (hm : ∀ j b, m j = some b → menB k b = false)
    (c : Array Value) (ty : TypeId) (bl : Blk)
    (hbl : BlkRep (w.alloc (.cells c ty)) (g.bind k w.heap.size c.size) lim w.heap.size c.size bl) :
    MSim (w.alloc (.cells c ty)) (g.bind k w.heap.size c.size) lim (put m k (some bl)) := by
  have hsz : (w.alloc (.cells c ty)).heap.size = w.heap.size + 1 := by simp
  have old : ∀ b, b < w.heap.size → (w.alloc (.cells c ty)).heap[b]? = w.heap[b]? := fun b hb => Below.heap_alloc w _ b hb
  have blt : ∀ j, g.al j → 0 < g.sz j → g.be j < w.heap.size := fun j hj h0 => by
    obtain ⟨b, hb⟩ := Option.isSome_iff_exists.1 ((h.al j).1 hj)
    exact (h.blk j b hb).in h0
  refine ⟨fun j => ?_, fun j hj => ?_, fun j hj hz hr => ?_, fun i j hi hj zi zj he => ?_, fun j b hb => ?_, fun b hb => by rw [hsz]; have := h.rolt b hb; omega, fun b hb => ?_⟩
  · by_cases hjk : j = k
    · subst hjk; simp [G.bind, Eng.put]
    · have : ¬ k = j := fun e => hjk e.symm
      simp [G.bind, hjk, Eng.put, this, h.al j]
  · rcases hj with rfl | hj
    · exact hk
    · exact h.lt j hj
  · by_cases hjk : j = k
    · subst hjk
      simp [G.bind] at hr
      have := h.rolt _ hr
      omega
    · simp [G.bind, hjk] at hr hj hz
      exact h.nro j hj hz hr
  · by_cases hik : i = k <;> by_cases hjk : j = k
    · rw [hik, hjk]
    · subst hik
      simp [G.bind, hjk] at hj he zj
      have := blt j hj zj
      omega
    · subst hjk
      simp [G.bind, hik] at hi he zi
      have := blt i hi zi
      omega
    · simp [G.bind, hik, hjk] at hi hj he zi zj
      exact h.inj i j hi hj zi zj he
  · by_cases hjk : j = k
    · subst hjk
      rw [put_self] at hb
      cases hb
      simpa [G.bind] using hbl
    · rw [put_ne _ _ (fun e => hjk e.symm)] at hb
      have hb2 := h.blk j b hb
      have ha : g.al j := (h.al j).2 (by simp [hb])
      simp only [G.bind, if_neg hjk]
      refine hb2.mono' ⟨fun b hr => hr, fun b hr => old b (h.rolt b hr)⟩ (Nat.le_refl _) (fun h0 => old _ (blt j ha h0)) fun i hmi _ hai => ?_
      have hik : i ≠ k := fun e => by rw [e, hm j b hb] at hmi; cases hmi
      rcases hai with e | hai
      · exact absurd e hik
      · exact ⟨hai, by simp [hik], by simp [hik]⟩
  · obtain ⟨n1, n2, n3⟩ := h.nof b hb
    refine ⟨by omega, n2, fun j hj hz => ?_⟩
    by_cases hjk : j = k
    · subst hjk; simp [G.bind]; omega
    · simp [G.bind, hjk] at hj hz ⊢; exact n3 j hj hz

/-- A ROW OF NOTHING, laid nowhere. -/
theorem MSim.birth {w : World} {g : G} {lim : Nat} {m : Nat → Option Blk} (h : MSim w g lim m) {k : Nat} (t : Ty) (hk : k < lim ∨ k % 2 = 1) (hm : ∀ j b, m j = some b → menB k b = false) :
    MSim w (g.bind k 0 0) lim (put m k (some (.row t []))) := by
  refine ⟨fun j => ?_, fun j hj => ?_, fun j hj hz hr => ?_, fun i j hi hj zi zj he => ?_, fun j b hb => ?_, h.rolt, fun b hb => ?_⟩
  · by_cases hjk : j = k
    · subst hjk; simp [G.bind, Eng.put]
    · have : ¬ k = j := fun e => hjk e.symm
      simp [G.bind, hjk, Eng.put, this, h.al j]
  · rcases hj with rfl | hj
    · exact hk
    · exact h.lt j hj
  · by_cases hjk : j = k
    · subst hjk; simp [G.bind] at hz
    · simp [G.bind, hjk] at hr hj hz
      exact h.nro j hj hz hr
  · by_cases hik : i = k
    · subst hik; simp [G.bind] at zi
    · by_cases hjk : j = k
      · subst hjk; simp [G.bind] at zj
      · simp [G.bind, hik, hjk] at hi hj he zi zj
        exact h.inj i j hi hj zi zj he
  · by_cases hjk : j = k
    · subst hjk
      rw [put_self] at hb
      cases hb
      exact .inl ⟨by simp [G.bind], rfl⟩
    · rw [put_ne _ _ (fun e => hjk e.symm)] at hb
      have hb2 := h.blk j b hb
      simp only [G.bind, if_neg hjk]
      refine hb2.mono' ⟨fun b hr => hr, fun b hr => rfl⟩ (Nat.le_refl _) (fun _ => rfl) fun i hmi _ hai => ?_
      have hik : i ≠ k := fun e => by rw [e, hm j b hb] at hmi; cases hmi
      rcases hai with e | hai
      · exact absurd e hik
      · exact ⟨hai, by simp [hik], by simp [hik]⟩
  · obtain ⟨n1, n2, n3⟩ := h.nof b hb
    refine ⟨n1, n2, fun j hj hz => ?_⟩
    by_cases hjk : j = k
    · subst hjk; simp [G.bind] at hz
    · simp [G.bind, hjk] at hj hz ⊢; exact n3 j hj hz

theorem RepL.bind {w w' : World} {g : G} {lim k b n : Nat} {f : List AV} {xs : Array Value} (h : RepL w g lim f xs) (hm : menL k f = false) (hs : ∀ b, g.ro b → w'.heap[b]? = w.heap[b]?) :
    RepL w' (g.bind k b n) lim f xs :=
  ⟨h.1, fun i c x hc hx => Rep.mono' (g := g) (g' := g.bind k b n) ⟨fun b hr => hr, hs⟩ (Nat.le_refl _) (h.2 i c x hc hx) fun j hj _ haj => by
    have hjk : j ≠ k := fun e => by rw [e] at hj; rw [menL_get hc hj] at hm; cases hm
    rcases haj with e | haj
    · exact absurd e hjk
    · exact ⟨haj, by simp [G.bind, hjk], by simp [G.bind, hjk]⟩⟩

theorem MSim.lt_heap {w : World} {g : G} {lim : Nat} {m : Nat → Option Blk} (h : MSim w g lim m) {k : Nat} (hk : g.al k) (h0 : 0 < g.sz k) : g.be k < w.heap.size := by
  obtain ⟨b, hb⟩ := Option.isSome_iff_exists.1 ((h.al k).1 hk)
  exact (h.blk k b hb).in h0

/-- AN OWN BLOCK IS WRITTEN: all others are as they were. -/
theorem MSim.write {w w' : World} {g : G} {lim : Nat} {m : Nat → Option Blk} (h : MSim w g lim m) {k : Nat} (hk : g.al k) (h0 : 0 < g.sz k) (bl : Blk)
    (hsz : w.heap.size ≤ w'.heap.size) (hw : ∀ b, b ≠ g.be k → b < w.heap.size → w'.heap[b]? = w.heap[b]?) (hbl : BlkRep w' g lim (g.be k) (g.sz k) bl) :
    MSim w' g lim (put m k (some bl)) := by
  have hro : ∀ b, g.ro b → w'.heap[b]? = w.heap[b]? := fun b hb => hw b (fun e => h.nro k hk h0 (e ▸ hb)) (h.rolt b hb)
  refine ⟨fun j => ?_, h.lt, h.nro, h.inj, fun j b hb => ?_, fun b hb => Nat.lt_of_lt_of_le (h.rolt b hb) hsz, fun b hb => ⟨Nat.lt_of_lt_of_le (h.nof b hb).1 hsz, (h.nof b hb).2⟩⟩
  · by_cases hjk : k = j
    · subst hjk; simp [Eng.put, hk]
    · simp [Eng.put, hjk, h.al j]
  · by_cases hjk : k = j
    · subst hjk; rw [put_self] at hb; cases hb; exact hbl
    · rw [put_ne _ _ hjk] at hb
      have ha : g.al j := (h.al j).2 (by simp [hb])
      exact (h.blk j b hb).mono' ⟨fun b hr => hr, hro⟩ (Nat.le_refl _) (fun hz => hw _ (fun e => hjk (h.inj k j hk ha h0 hz e.symm)) (h.lt_heap ha hz)) fun i _ _ hai => ⟨hai, rfl, rfl⟩

theorem RepL.same {w w' : World} {g : G} {lim : Nat} {f : List AV} {xs : Array Value} (h : RepL w g lim f xs) (hs : ∀ b, g.ro b → w'.heap[b]? = w.heap[b]?) : RepL w' g lim f xs :=
  h.mono ⟨fun _ h => h, hs⟩ (Nat.le_refl _) fun _ _ ha => ⟨ha, rfl, rfl⟩

/-- AN OWN BLOCK IS GIVEN UP. -/
theorem MSim.kill {w : World} {g : G} {lim : Nat} {m : Nat → Option Blk} (h : MSim w g lim m) (k : Nat) : MSim w (g.kill k) lim (put m k none) := by
  refine ⟨fun j => ?_, fun j hj => h.lt j hj.2, fun j hj => h.nro j hj.2, fun i j hi hj => h.inj i j hi.2 hj.2, fun j b hb => ?_, h.rolt, fun b hb => ⟨(h.nof b hb).1, (h.nof b hb).2.1, fun j hj => (h.nof b hb).2.2 j hj.2⟩⟩
  · by_cases hjk : k = j
    · subst hjk; simp [Eng.put, G.kill]
    · have : j ≠ k := fun e => hjk e.symm
      simp [Eng.put, hjk, G.kill, h.al j, this]
  · by_cases hjk : k = j
    · subst hjk; rw [put_self] at hb; cases hb
    · rw [put_ne _ _ hjk] at hb
      exact (h.blk j b hb).mono' ⟨fun b hr => hr, fun _ _ => rfl⟩ (Nat.le_refl _) (fun _ => rfl) fun i _ _ hai => ⟨hai.2, rfl, rfl⟩

theorem Rep.kill {w : World} {g : G} {lim : Nat} {v : AV} {x : Value} (h : Rep w g lim v x) (k : Nat) : Rep w (g.kill k) lim v x :=
  h.mono ⟨fun _ h => h, fun _ _ => rfl⟩ (Nat.le_refl _) fun _ _ ha => ⟨ha.2, rfl, rfl⟩

/-- AN OWN BLOCK THAT NOBODY WRITES ANY MORE. -/
theorem MSim.freeze {w : World} {g : G} {lim : Nat} {m : Nat → Option Blk} (h : MSim w g lim m) {k : Nat} (hk : g.al k) : MSim w (g.freeze k) lim (put m k none) := by
  refine ⟨fun j => ?_, fun j hj => h.lt j hj.2, fun j hj hz hr => ?_, fun i j hi hj => h.inj i j hi.2 hj.2, fun j b hb => ?_, fun b hb => ?_, fun b hb => ?_⟩
  · by_cases hjk : k = j
    · subst hjk; simp [Eng.put, G.freeze]
    · have : j ≠ k := fun e => hjk e.symm
      simp [Eng.put, hjk, G.freeze, h.al j, this]
  · rcases hr with hr | hr
    · exact h.nro j hj.2 hz hr
    · exact hj.1 (h.inj j k hj.2 hk hz hr.1 hr.2)
  · by_cases hjk : k = j
    · subst hjk; rw [put_self] at hb; cases hb
    · rw [put_ne _ _ hjk] at hb
      exact (h.blk j b hb).mono' ⟨fun b hr => .inl hr, fun _ _ => rfl⟩ (Nat.le_refl _) (fun _ => rfl) fun i _ _ hai => ⟨hai.2, rfl, rfl⟩
  · rcases hb with hb | ⟨h0, rfl⟩
    · exact h.rolt b hb
    · exact h.lt_heap hk h0
  · obtain ⟨n1, n2, n3⟩ := h.nof b hb
    refine ⟨n1, fun hr => ?_, fun j hj => n3 j hj.2⟩
    rcases hr with hr | ⟨h0, rfl⟩
    · exact n2 hr
    · exact n3 k hk h0 rfl

theorem Rep.freeze {w : World} {g : G} {lim : Nat} {v : AV} {x : Value} (h : Rep w g lim v x) (k : Nat) : Rep w (g.freeze k) lim v x :=
  h.mono ⟨fun _ h => .inl h, fun _ _ => rfl⟩ (Nat.le_refl _) fun _ _ ha => ⟨ha.2, rfl, rfl⟩

theorem RepL.kill {w : World} {g : G} {lim : Nat} {f : List AV} {xs : Array Value} (h : RepL w g lim f xs) (k : Nat) : RepL w (g.kill k) lim f xs :=
  ⟨h.1, fun i c x hc hx => (h.2 i c x hc hx).kill k⟩
theorem RepL.freeze {w : World} {g : G} {lim : Nat} {f : List AV} {xs : Array Value} (h : RepL w g lim f xs) (k : Nat) : RepL w (g.freeze k) lim f xs :=
  ⟨h.1, fun i c x hc hx => (h.2 i c x hc hx).freeze k⟩

end Eng
