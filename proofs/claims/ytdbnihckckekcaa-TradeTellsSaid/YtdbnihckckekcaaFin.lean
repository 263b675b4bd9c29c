/- ENDS AND CALLS: results whose own rows are frozen; calls by lifted contracts. -/
import Derived.Test.YtdbnihckckekcaaLift2
import Derived.Test.YtdbnihckckekcaaDraw2
set_option linter.unusedSimpArgs false
set_option linter.unusedVariables false
namespace Eng
open Go Go.RowKit

mutual
/-- A result, its own rows as slices that nobody writes. -/
def frzA : AV → Mem → (AV → Prop) → Prop
  | .own t k off n _, m, K => memK m k fun b => match b with
    | .row t' l => match tyB t' t with
      | true => asK t' t l fun l => off + n ≤ l.length ∧ K (.vec t ((l.drop off).take n))
      | false => False
    | .box _ => False
  | .agg cs, m, K => frzL cs m fun cs => K (.agg cs)
  | .tup cs, m, K => frzL cs m fun cs => K (.tup cs)
  | .ptr _ _, _, _ => False
  | .rptr _ _ _ _, _, _ => False
  | .clo _ _ _, _, _ => False
  | v, _, K => K v
def frzL : List AV → Mem → (List AV → Prop) → Prop
  | [], _, K => K []
  | c :: r, m, K => frzA c m fun c => frzL r m fun r => K (c :: r)
end

/-- All own blocks frozen. -/
def G.all (g : G) : G := { ro := fun b => g.ro b ∨ ∃ k, g.al k ∧ 0 < g.sz k ∧ g.be k = b, no := g.no, al := fun _ => False, be := g.be, sz := g.sz }
theorem keeps_all (w : World) (g : G) : Keeps w w g g.all := ⟨fun _ h => .inl h, fun _ _ => rfl⟩

theorem Rep.toVecA {w : World} {g : G} {lim : Nat} {m : Nat → Option Blk} (hm : MSim w g lim m) {t : Ty} {k off n : Nat} {c : Option Nat} {l : List (El t)} (hk : m k = some (.row t l)) (hl : off + n ≤ l.length) {x : Value}
    (h : Rep w g lim (.own t k off n c) x) : Rep w g.all 0 (.vec t ((l.drop off).take n)) x := by
  have hal : g.al k := (hm.al k).2 (by simp [hk])
  have hv := h.toVec hm hk hl
  have h1 : Rep w g.all 0 (.vec t ((l.drop off).take n)) x := hv.pure rfl ⟨fun b hb => by
    rcases hb with hb | hb
    · exact .inl hb
    · exact .inr ⟨k, hal, hb.1, hb.2.symm⟩, fun _ _ => rfl⟩
  exact h1

mutual
theorem frzA_ok : ∀ (v : AV) {m : Mem} {K : AV → Prop}, frzA v m K → ∃ v', K v' ∧ ∀ (w : World) (g : G) (lim : Nat) (x : Value), MSim w g lim (mget m) → Rep w g lim v x → Rep w g.all 0 v' x
  | .top, m, K, h => ⟨_, h, fun w g lim x _ _ => .top x⟩
  | .tt, m, K, h => ⟨_, h, fun w g lim x _ hr => by cases hr; exact .tt⟩
  | .ff, m, K, h => ⟨_, h, fun w g lim x _ hr => by cases hr; exact .ff⟩
  | .emp _, m, K, h => ⟨_, h, fun w g lim x _ hr => hr.pure rfl (keeps_all w g)⟩
  | .bl _ _, m, K, h => ⟨_, h, fun w g lim x _ hr => hr.pure rfl (keeps_all w g)⟩
  | .lit _, m, K, h => ⟨_, h, fun w g lim x _ hr => by cases hr; exact .lit _⟩
  | .vec _ _, m, K, h => ⟨_, h, fun w g lim x _ hr => hr.pure rfl (keeps_all w g)⟩
  | .vptr _ _ _ _, m, K, h => ⟨_, h, fun w g lim x _ hr => hr.pure rfl (keeps_all w g)⟩
  | .ptr _ _, m, K, h => by simp only [frzA] at h
  | .rptr _ _ _ _, m, K, h => by simp only [frzA] at h
  | .clo _ _ _, m, K, h => by simp only [frzA] at h
  | .agg cs, m, K, h => by
    simp only [frzA] at h
    obtain ⟨cs', hK, hh⟩ := frzL_ok cs h
    refine ⟨_, hK, fun w g lim x hm hr => ?_⟩
    cases hr with
    | agg _ xs hl hx => have := hh w g lim xs hm ⟨hl, hx⟩; exact .agg _ xs this.1 this.2
  | .tup cs, m, K, h => by
    simp only [frzA] at h
    obtain ⟨cs', hK, hh⟩ := frzL_ok cs h
    refine ⟨_, hK, fun w g lim x hm hr => ?_⟩
    cases hr with
    | tup _ xs hl hx => have := hh w g lim xs hm ⟨hl, hx⟩; exact .tup _ xs this.1 this.2
  | .own t k off n c, m, K, h => by
    simp only [frzA] at h
    obtain ⟨b, hb, h⟩ := memK_ok h
    cases b with
    | box _ => exact h.elim
    | row t' l =>
      simp only at h
      cases ht : tyB t' t with
      | false => rw [ht] at h; exact h.elim
      | true =>
        rw [ht] at h
        have e1 := tyB_ok ht
        subst e1
        obtain ⟨e2, h2⟩ := asK_ok h
        exact ⟨_, h2.2, fun w g lim x hm hr => hr.toVecA hm hb h2.1⟩
theorem frzL_ok : ∀ (cs : List AV) {m : Mem} {K : List AV → Prop}, frzL cs m K → ∃ cs', K cs' ∧ ∀ (w : World) (g : G) (lim : Nat) (xs : Array Value), MSim w g lim (mget m) → RepL w g lim cs xs → RepL w g.all 0 cs' xs
  | [], m, K, h => ⟨[], h, fun w g lim xs _ hr => ⟨hr.1, fun i c x hc => by simp at hc⟩⟩
  | c :: r, m, K, h => by
    simp only [frzL] at h
    obtain ⟨c', h, hc'⟩ := frzA_ok c h
    obtain ⟨r', hK, hr'⟩ := frzL_ok r h
    refine ⟨_, hK, fun w g lim xs hm hr => ?_⟩
    obtain ⟨x, ys, hxs⟩ : ∃ x ys, xs.toList = x :: ys := by
      cases hx : xs.toList with
      | nil => have := hr.1; rw [← Array.length_toList, hx] at this; simp at this
      | cons x ys => exact ⟨x, ys, rfl⟩
    have hx2 : xs = (x :: ys).toArray := by rw [← hxs]
    subst hx2
    have h1 := hc' w g lim x hm (hr.2 0 c x (by simp) (by simp))
    have h2 := hr' w g lim ys.toArray hm ⟨by have := hr.1; simpa using this, fun i c2 x2 hc2 hx2 => hr.2 (i + 1) c2 x2 (by simpa using hc2) (by simpa using hx2)⟩
    exact RepL.cons0 h1 h2
end

theorem MSim.all {w : World} {g : G} {lim : Nat} {m : Nat → Option Blk} (h : MSim w g lim m) : MSim w g.all 0 (mget []) :=
  ⟨fun k => by simp [G.all, mget], fun k hk => hk.elim, fun k hk => hk.elim, fun k j hk => hk.elim, fun k b hb => by simp [mget] at hb, fun b hb => by
    rcases hb with hb | ⟨k, hk, hz, rfl⟩
    · exact h.rolt b hb
    · exact h.lt_heap hk hz, fun b hb => ⟨(h.nof b hb).1, fun hr => by
      rcases hr with hr | ⟨k, hk, hz, e⟩
      · exact (h.nof b hb).2.1 hr
      · exact (h.nof b hb).2.2 k hk hz e, fun k hk => hk.elim⟩⟩

/-- A function of data alone; what it makes is frozen at its end. -/
theorem Api.of_ev2 {P : Program} {C : Cfg2} (hC : Cfg2Ok P C) {fid : FuncId} {fn : Func} {c : Code} (hf : P.funcs[fid]? = some fn) (hb : fn.body = some c) {nt : Nat} {args : List AV} {v : AV}
    (hn : fn.ntmps - args.length = nt) (h : ev P C 0 c (bodyK P 0 fn.results.toList fun v' m => frzA v' m fun v' => Le v' v) (args ++ undefs nt) []) : Api P fid args v := by
  intro w g vs hm ha
  refine (calls_of_ev hC hf hb hn h hm ha).mono fun e w' ⟨v', x, g', m', e1, e2, e3, e4, e5, e6⟩ => ?_
  obtain ⟨v2, hle, hr⟩ := frzA_ok v' e6
  exact ⟨x, g'.all, e1, hle _ _ _ _ (hr w' g' _ x e3 e2), e3.all, e4, ⟨fun b hb => .inl (e5.ro b hb), e5.no, fun k hk => by omega⟩⟩

/-- What is asked of the caller's own memory. -/
def rdK (ρ : Nat → Nat) (m : Mem) : Mem → Prop
  | [] => True
  | (k, b) :: r => mget m (ρ k) = some (renB ρ b) ∧ rdK ρ m r
theorem rdK_ok {ρ : Nat → Nat} {m : Mem} : ∀ {m0 : Mem}, rdK ρ m m0 → ∀ p ∈ rdR ρ m0, mget m p.1 = some p.2
  | [], _, p, hp => by simp [rdR] at hp
  | (k, b) :: r, h, p, hp => by
    simp only [rdR, List.mem_cons] at hp
    rcases hp with rfl | hp
    · exact h.1
    · exact rdK_ok h.2 p hp

def liftC (l : List (Nat × Nat)) (m0 : Mem) (v : AV) (m1 : Mem) : Act1 := ⟨renV (asc l) v, rdR (asc l) m0, catU (dlR (asc l) m0) (ptR (asc l) m1), frR (asc l) m0 m1⟩

/-! The same, written out. -/
def ascK : List (Nat × Nat) → Nat → (Nat → Prop) → Prop
  | [], _, K => K 0
  | (i, a) :: r, k, K => match Nat.beq i k with | true => K a | false => ascK r k K
theorem ascK_eq (l : List (Nat × Nat)) (k : Nat) (K : Nat → Prop) : ascK l k K = K (asc l k) := by
  induction l with
  | nil => rfl
  | cons p r ih =>
    obtain ⟨i, a⟩ := p
    simp only [ascK, asc]
    cases Nat.beq i k with
    | true => rfl
    | false => exact ih
mutual
def renVK (l : List (Nat × Nat)) : AV → (AV → Prop) → Prop
  | .own t k o n c, K => ascK l k fun k => K (.own t k o n c)
  | .ptr k o, K => ascK l k fun k => K (.ptr k o)
  | .rptr t k i o, K => ascK l k fun k => K (.rptr t k i o)
  | .agg cs, K => renLK l cs fun cs => K (.agg cs)
  | .tup cs, K => renLK l cs fun cs => K (.tup cs)
  | .clo f a b, K => renLK l a fun a => renLK l b fun b => K (.clo f a b)
  | v, K => K v
def renLK (l : List (Nat × Nat)) : List AV → (List AV → Prop) → Prop
  | [], K => K []
  | c :: r, K => renVK l c fun c => renLK l r fun r => K (c :: r)
end
mutual
theorem renVK_eq (l : List (Nat × Nat)) : ∀ (v : AV) (K : AV → Prop), renVK l v K = K (renV (asc l) v)
  | .own _ _ _ _ _, K => by simp only [renVK, renV, ascK_eq]
  | .ptr _ _, K => by simp only [renVK, renV, ascK_eq]
  | .rptr _ _ _ _, K => by simp only [renVK, renV, ascK_eq]
  | .agg cs, K => by simp only [renVK, renV]; rw [renLK_eq l cs]
  | .tup cs, K => by simp only [renVK, renV]; rw [renLK_eq l cs]
  | .clo f a b, K => by simp only [renVK, renV]; rw [renLK_eq l a, renLK_eq l b]
  | .top, K => by simp only [renVK, renV]
  | .tt, K => by simp only [renVK, renV]
  | .ff, K => by simp only [renVK, renV]
  | .bl _ _, K => by simp only [renVK, renV]
  | .emp _, K => by simp only [renVK, renV]
  | .lit _, K => by simp only [renVK, renV]
  | .vec _ _, K => by simp only [renVK, renV]
  | .vptr _ _ _ _, K => by simp only [renVK, renV]
theorem renLK_eq (l : List (Nat × Nat)) : ∀ (cs : List AV) (K : List AV → Prop), renLK l cs K = K (renL (asc l) cs)
  | [], K => by simp only [renLK, renL]
  | c :: r, K => by simp only [renLK, renL]; rw [renVK_eq l c, renLK_eq l r]
end
def renBK (l : List (Nat × Nat)) (b : Blk) (K : Blk → Prop) : Prop := match b with
  | .box cs => renLK l cs fun cs => K (.box cs)
  | .row t x => K (.row t x)
theorem renBK_eq (l : List (Nat × Nat)) (b : Blk) (K : Blk → Prop) : renBK l b K = K (renB (asc l) b) := by
  cases b with
  | box cs => simp only [renBK, renB]; rw [renLK_eq]
  | row t x => rfl
def rdRK (l : List (Nat × Nat)) : Mem → (List (Nat × Blk) → Prop) → Prop
  | [], K => K []
  | (k, b) :: r, K => ascK l k fun k => renBK l b fun b => rdRK l r fun r => K ((k, b) :: r)
theorem rdRK_eq (l : List (Nat × Nat)) : ∀ (m : Mem) (K : List (Nat × Blk) → Prop), rdRK l m K = K (rdR (asc l) m)
  | [], K => rfl
  | (k, b) :: r, K => by simp only [rdRK, rdR, ascK_eq, renBK_eq]; rw [rdRK_eq l r]
def upRK (l : List (Nat × Nat)) (m1 : Mem) : Mem → (List (Nat × Option Blk) → Prop) → Prop
  | [], K => ptRK l m1 K
  | (k, _) :: r, K => ascK l k fun k => upRK l m1 r fun r => K ((k, none) :: r)
where ptRK (l : List (Nat × Nat)) : Mem → (List (Nat × Option Blk) → Prop) → Prop
  | [], K => K []
  | (k, b) :: r, K => ascK l k fun k => renBK l b fun b => ptRK l r fun r => K ((k, some b) :: r)
theorem ptRK_eq (l : List (Nat × Nat)) : ∀ (m : Mem) (K : List (Nat × Option Blk) → Prop), upRK.ptRK l m K = K (ptR (asc l) m)
  | [], K => rfl
  | (k, b) :: r, K => by simp only [upRK.ptRK, ptR, ascK_eq, renBK_eq]; rw [ptRK_eq l r]
theorem upRK_eq (l : List (Nat × Nat)) (m1 : Mem) : ∀ (m : Mem) (K : List (Nat × Option Blk) → Prop), upRK l m1 m K = K (catU (dlR (asc l) m) (ptR (asc l) m1))
  | [], K => by simp only [upRK, dlR, catU]; exact ptRK_eq l m1 K
  | (k, b) :: r, K => by simp only [upRK, dlR, catU, ascK_eq]; rw [upRK_eq l m1 r]
def frRK (l : List (Nat × Nat)) (m0 : Mem) : Mem → (List Nat → Prop) → Prop
  | [], K => K []
  | (k, _) :: r, K => match hasK m0 k with
    | true => frRK l m0 r K
    | false => ascK l k fun k => frRK l m0 r fun r => K (k :: r)
theorem frRK_eq (l : List (Nat × Nat)) (m0 : Mem) : ∀ (m : Mem) (K : List Nat → Prop), frRK l m0 m K = K (frR (asc l) m0 m)
  | [], K => rfl
  | (k, b) :: r, K => by
    simp only [frRK, frR]
    cases hasK m0 k with
    | true => exact frRK_eq l m0 r K
    | false => simp only [ascK_eq]; rw [frRK_eq l m0 r]
def liftCK (l : List (Nat × Nat)) (m0 : Mem) (v : AV) (m1 : Mem) (K : Act1 → Prop) : Prop :=
  renVK l v fun v => rdRK l m0 fun rd => upRK l m1 m0 fun up => frRK l m0 m1 fun fr => K ⟨v, rd, up, fr⟩
theorem liftCK_eq (l : List (Nat × Nat)) (m0 : Mem) (v : AV) (m1 : Mem) (K : Act1 → Prop) : liftCK l m0 v m1 K = K (liftC l m0 v m1) := by
  unfold liftCK liftC
  rw [renVK_eq, rdRK_eq, upRK_eq, frRK_eq]

/-- A call by a lifted contract, in a walk. -/
theorem callEv {P : Program} {base : Nat} {fid : FuncId} {args args' : List AV} {m0 m1 : Mem} {v : AV} (h : Ev1 P fid args m0 v m1) (l : List (Nat × Nat)) {f : List AV} {m : Mem} {d : Option Nat} {K : List AV → Mem → Prop} {J : Prop}
    (hargs : renL (asc l) args = args') (hrd : rdK (asc l) m m0) (hok : liftB base l args m0 v m1 = true) (hK : liftCK l m0 v m1 fun c => applyK c f m d K) :
    (∃ c : Act1, (∀ p ∈ c.rd, mget m p.1 = some p.2) ∧ CAct P base fid args' c ∧ applyK c f m d K) ∨ J := by
  rw [liftCK_eq] at hK
  exact .inl ⟨liftC l m0 v m1, rdK_ok hrd, by rw [← hargs]; exact h.cact base l hok, hK⟩
/-- The same in a region that draws its order. -/
theorem callEvD {P : Program} {base : Nat} {fid : FuncId} {args args' : List AV} {m0 m1 : Mem} {v : AV} (h : Ev1 P fid args m0 v m1) (l : List (Nat × Nat)) {m : Mem} {K : Act1 → Prop}
    (hargs : renL (asc l) args = args') (hrd : rdK (asc l) m m0) (hok : liftB base l args m0 v m1 = true) (hK : liftCK l m0 v m1 K) :
    ∃ c : Act1, (∀ p ∈ c.rd, mget m p.1 = some p.2) ∧ CAct P base fid args' c ∧ K c := by
  rw [liftCK_eq] at hK
  exact ⟨liftC l m0 v m1, rdK_ok hrd, by rw [← hargs]; exact h.cact base l hok, hK⟩
theorem callApiD {P : Program} {base : Nat} {fid : FuncId} {args : List AV} {v : AV} (h : Api P fid args v) {m : Mem} {K : Act1 → Prop} (ha : pureL args = true) (hv : pureV v = true) (hK : K (vA v)) :
    ∃ c : Act1, (∀ p ∈ c.rd, mget m p.1 = some p.2) ∧ CAct P base fid args c ∧ K c :=
  ⟨vA v, by simp [vA], h.cact ha hv base, hK⟩

theorem dels_ok {w : World} {lim : Nat} (base : Nat) (ks : List Nat) : ∀ {g : G} {m : Mem}, MSim w g lim (mget m) → ∃ g', MSim w g' lim (mget (dels ks m)) ∧ LeG base g g' ∧ ∀ v x, Rep w g lim v x → Rep w g' lim v x := by
  induction ks with
  | nil => intro g m h; exact ⟨g, h, LeG.refl base g, fun _ _ h => h⟩
  | cons k r ih =>
    intro g m h
    have h1 := h.kill k
    rw [← mget_mdel'] at h1
    obtain ⟨g', h2, h3, h4⟩ := ih h1
    exact ⟨g', h2, (LeG.kill base g k).trans h3, fun v x hv => h4 v x (hv.kill k)⟩

theorem Ev1.of_evD {P : Program} {C : Cfg2} (hC : Cfg2Ok P C) {fid : FuncId} {fn : Func} {c : Code} (hf : P.funcs[fid]? = some fn) (hb : fn.body = some c) {nt : Nat} {args : List AV} {m0 m1 : Mem} {v : AV}
    (hn : fn.ntmps - args.length = nt) (h : ev P C L c (bodyK P L fn.results.toList fun v' m' => ∃ ks, Le v' v ∧ dels ks m' = m1) (args ++ undefs nt) m0) : Ev1 P fid args m0 v m1 := by
  intro w g vs hm ha
  refine (calls_of_ev hC hf hb hn h hm ha).mono fun e w' ⟨v', x, g', m', e1, e2, e3, e4, e5, ks, e6, e7⟩ => ?_
  obtain ⟨g2, h1, h2, h3⟩ := dels_ok L ks e3
  subst e7
  exact ⟨x, g2, e1, h3 _ _ (e6 _ _ _ _ e2), h1, e4, e5.trans h2⟩

theorem Le.ownE {t : Ty} {k o n : Nat} (h : n = 0) : Le (.own t k o n (some 0)) (.emp t) := fun _ _ _ _ hr => by
  subst h
  cases hr with
  | own _ _ _ _ b cap _ hk hc hcc hh => obtain rfl := hcc 0 rfl; exact .emp _ _
  | ownE _ _ _ _ ad hk hcc => exact .emp _ _
theorem Le.vec {t : Ty} {l l' : List (El t)} (h : l = l') : Le (.vec t l) (.vec t l') := by subst h; exact Le.refl _
theorem Le.emp (t : Ty) : Le (.emp t) (.vec t []) := fun _ _ _ _ hr => by cases hr; exact .vecE _ _ _
theorem Le.own {t : Ty} {k o n n' : Nat} {c : Option Nat} (h : n = n') : Le (.own t k o n c) (.own t k o n' c) := by subst h; exact Le.refl _
theorem Le.nilE (t : Ty) : Le (.lit (.slice none 0 0)) (.emp t) := fun _ _ _ _ hr => by cases hr; exact .emp _ _
theorem Le.nil (t : Ty) : Le (.lit (.slice none 0 0)) (.vec t []) := fun _ _ _ _ hr => by cases hr; exact .vecE _ _ _

end Eng
