/- CODE OVER ABSTRACT VALUES: operations one after the other; guards; what an operation leaves, written out. -/
import Derived.Test.YtdbnihckckekcaaOps8
set_option linter.unusedSimpArgs false
set_option linter.unusedVariables false
namespace Eng
open Go Go.RowKit

def setK : List AV → Nat → AV → (List AV → Prop) → Prop
  | [], _, _, K => K []
  | _ :: r, 0, v, K => K (v :: r)
  | a :: r, n + 1, v, K => setK r n v fun r' => K (a :: r')
theorem setK_eq (f : List AV) (d : Nat) (v : AV) (K : List AV → Prop) : setK f d v K = K (f.set d v) := by
  induction f generalizing d K with
  | nil => rfl
  | cons a r ih => cases d <;> simp [setK, ih]

def fputK (f : List AV) (d : Option Nat) (v : AV) (K : List AV → Prop) : Prop := match d with | some d => setK f d v K | none => K f
theorem fputK_eq (f : List AV) (d : Option Nat) (v : AV) (K : List AV → Prop) : fputK f d v K = K (fput f d v) := by
  cases d with
  | none => rfl
  | some d => exact setK_eq f d v K

mutual
def fgtC (k : Nat) : AV → (AV → Prop) → Prop
  | .own t j o n c, K => match Nat.beq j k with | true => K .top | false => K (.own t j o n c)
  | .ptr j o, K => match Nat.beq j k with | true => K .top | false => K (.ptr j o)
  | .rptr t j i o, K => match Nat.beq j k with | true => K .top | false => K (.rptr t j i o)
  | .agg cs, K => fgtCL k cs fun l => K (.agg l)
  | .tup cs, K => fgtCL k cs fun l => K (.tup l)
  | .clo f a b, K => fgtCL k a fun a => fgtCL k b fun b => K (.clo f a b)
  | v, K => K v
def fgtCL (k : Nat) : List AV → (List AV → Prop) → Prop
  | [], K => K []
  | c :: r, K => fgtC k c fun c => fgtCL k r fun r => K (c :: r)
end
mutual
theorem fgtC_eq (k : Nat) : ∀ (v : AV) (K : AV → Prop), fgtC k v K = K (fgt k v)
  | .top, _ => rfl
  | .tt, _ => rfl
  | .ff, _ => rfl
  | .lit _, _ => rfl
  | .agg cs, K => by simp only [fgtC, fgt]; exact fgtCL_eq k cs _
  | .tup cs, K => by simp only [fgtC, fgt]; exact fgtCL_eq k cs _
  | .vec _ _, _ => rfl
  | .emp _, _ => rfl
  | .bl _ _, _ => rfl
  | .own t j o n c, K => by simp only [fgtC, fgt]; cases Nat.beq j k <;> rfl
  | .ptr j o, K => by simp only [fgtC, fgt]; cases Nat.beq j k <;> rfl
  | .rptr t j i o, K => by simp only [fgtC, fgt]; cases Nat.beq j k <;> rfl
  | .vptr _ _ _ _, _ => rfl
  | .clo f a b, K => by simp only [fgtC, fgt]; rw [fgtCL_eq k a, fgtCL_eq k b]
theorem fgtCL_eq (k : Nat) : ∀ (cs : List AV) (K : List AV → Prop), fgtCL k cs K = K (fgtL k cs)
  | [], _ => rfl
  | c :: r, K => by simp only [fgtCL, fgtL]; rw [fgtC_eq k c, fgtCL_eq k r]
end

def fgtMem (k : Nat) : Mem → Mem
  | [] => []
  | (i, b) :: r => (i, fgtB k b) :: fgtMem k r
def fgtMC (k : Nat) : Mem → (Mem → Prop) → Prop
  | [], K => K []
  | (i, b) :: r, K => match b with
    | .box cs => fgtCL k cs fun cs => fgtMC k r fun r => K ((i, .box cs) :: r)
    | .row t l => fgtMC k r fun r => K ((i, .row t l) :: r)
theorem fgtMC_eq (k : Nat) (m : Mem) (K : Mem → Prop) : fgtMC k m K = K (fgtMem k m) := by
  induction m generalizing K with
  | nil => rfl
  | cons p r ih =>
    obtain ⟨i, b⟩ := p
    cases b with
    | box cs => simp only [fgtMC, fgtMem, fgtB]; rw [fgtCL_eq, ih]
    | row t l => simp only [fgtMC, fgtMem, fgtB]; rw [ih]
theorem mget_fgtMem (k : Nat) (m : Mem) : mget (fgtMem k m) = fgtM k (mget m) := by
  funext j
  induction m with
  | nil => rfl
  | cons p r ih =>
    obtain ⟨i, b⟩ := p
    simp only [fgtMem, mget, fgtM]
    cases Nat.beq i j with
    | true => rfl
    | false => simpa [fgtM] using ih

def fgtsC : List Nat → List AV → Mem → (List AV → Mem → Prop) → Prop
  | [], f, m, K => K f m
  | k :: r, f, m, K => fgtCL k f fun f => fgtMC k m fun m => fgtsC r f m K
theorem fgtsC_eq (ks : List Nat) (f : List AV) (m : Mem) (K : List AV → Mem → Prop) (h : fgtsC ks f m K) : ∃ m', K (fgtsF ks f) m' ∧ mget m' = fgtsM ks (mget m) := by
  induction ks generalizing f m with
  | nil => exact ⟨m, h, rfl⟩
  | cons k r ih =>
    simp only [fgtsC] at h
    rw [fgtCL_eq, fgtMC_eq] at h
    obtain ⟨m', h1, h2⟩ := ih _ _ h
    exact ⟨m', h1, by rw [h2, mget_fgtMem]; rfl⟩

def msetC : Mem → Nat → Blk → (Mem → Prop) → Prop
  | [], k, b, K => K [(k, b)]
  | (i, c) :: r, k, b, K => match Nat.beq i k with | true => K ((k, b) :: r) | false => msetC r k b fun r => K ((i, c) :: r)
theorem msetC_eq (m : Mem) (k : Nat) (b : Blk) (K : Mem → Prop) : msetC m k b K = K (mset m k b) := by
  induction m generalizing K with
  | nil => rfl
  | cons p r ih =>
    obtain ⟨i, c⟩ := p
    simp only [msetC, mset]
    cases Nat.beq i k with
    | true => rfl
    | false => simp only; rw [ih]
def mdelC : Mem → Nat → (Mem → Prop) → Prop
  | [], _, K => K []
  | (i, c) :: r, k, K => match Nat.beq i k with | true => mdelC r k K | false => mdelC r k fun r => K ((i, c) :: r)
theorem mdelC_eq (m : Mem) (k : Nat) (K : Mem → Prop) : mdelC m k K = K (mdel m k) := by
  induction m generalizing K with
  | nil => rfl
  | cons p r ih =>
    obtain ⟨i, c⟩ := p
    simp only [mdelC, mdel]
    cases Nat.beq i k with
    | true => simp only; rw [ih]
    | false => simp only; rw [ih]
def putsC : List (Nat × Option Blk) → Mem → (Mem → Prop) → Prop
  | [], m, K => K m
  | (k, b) :: r, m, K => match b with
    | some b => msetC m k b fun m => putsC r m K
    | none => mdelC m k fun m => putsC r m K
theorem mget_mset' (m : Mem) (k : Nat) (b : Blk) : mget (mset m k b) = put (mget m) k (some b) := by funext j; rw [mget_mset]; rfl
theorem mget_mdel' (m : Mem) (k : Nat) : mget (mdel m k) = put (mget m) k none := by funext j; rw [mget_mdel]; rfl
theorem putsC_eq (us : List (Nat × Option Blk)) (m : Mem) (K : Mem → Prop) (h : putsC us m K) : ∃ m', K m' ∧ mget m' = putsM us (mget m) := by
  induction us generalizing m with
  | nil => exact ⟨m, h, rfl⟩
  | cons p r ih =>
    obtain ⟨k, b⟩ := p
    cases b with
    | some b =>
      simp only [putsC] at h
      rw [msetC_eq] at h
      obtain ⟨m', h1, h2⟩ := ih _ h
      exact ⟨m', h1, by rw [h2, mget_mset']; rfl⟩
    | none =>
      simp only [putsC] at h
      rw [mdelC_eq] at h
      obtain ⟨m', h1, h2⟩ := ih _ h
      exact ⟨m', h1, by rw [h2, mget_mdel']; rfl⟩

/-- What an operation leaves. -/
def applyK (c : Act1) (f : List AV) (m : Mem) (d : Option Nat) (K : List AV → Mem → Prop) : Prop :=
  match c with
  | ⟨v, _, up, fg⟩ => fgtsC fg f m fun f m => putsC up m fun m => fputK f d v fun f => K f m
theorem applyK_eq {c : Act1} {f : List AV} {m : Mem} {d : Option Nat} {K : List AV → Mem → Prop} (h : applyK c f m d K) : ∃ m', K (c.fr f d) m' ∧ mget m' = c.me (mget m) := by
  obtain ⟨v, rd, up, fg⟩ := c
  obtain ⟨m1, h1, h2⟩ := fgtsC_eq _ _ _ _ h
  obtain ⟨m2, h3, h4⟩ := putsC_eq _ _ _ h1
  rw [fputK_eq] at h3
  exact ⟨m2, h3, by rw [h4, h2]; rfl⟩

/-- A CALL AS AN ACT: whatever else own memory holds. -/
structure CAct (P : Program) (base : Nat) (fn : FuncId) (args : List AV) (c : Act1) : Prop where
  go : ∀ (m : Nat → Option Blk), (∀ p ∈ c.rd, m p.1 = some p.2) → ∀ (w : World) (g : G) (vs : Array Value), MSim w g (base + L) m → RepL w g (base + L) args vs →
    Calls P fn vs w fun e w' => ∃ x g', e = .returned x ∧ Rep w' g' (base + L) c.v x ∧ MSim w' g' (base + L) (c.me m) ∧ Tr g w w' ∧ LeG base g g' ∧
      ∀ fr xs, RepL w g (base + L) fr xs → RepL w' g' (base + L) (fgtsF c.fg fr) xs

mutual
/-- What names a block from 'lim' on is forgotten. -/
def noR (lim : Nat) : AV → AV
  | .own t j o n c => match Nat.blt j lim with | true => .own t j o n c | false => .top
  | .ptr j o => match Nat.blt j lim with | true => .ptr j o | false => .top
  | .rptr t j i o => match Nat.blt j lim with | true => .rptr t j i o | false => .top
  | .agg cs => .agg (noRL lim cs)
  | .tup cs => .tup (noRL lim cs)
  | .clo f a b => .clo f (noRL lim a) (noRL lim b)
  | v => v
def noRL (lim : Nat) : List AV → List AV
  | [] => []
  | c :: r => noR lim c :: noRL lim r
end
mutual
def noRC (lim : Nat) : AV → (AV → Prop) → Prop
  | .own t j o n c, K => match Nat.blt j lim with | true => K (.own t j o n c) | false => K .top
  | .ptr j o, K => match Nat.blt j lim with | true => K (.ptr j o) | false => K .top
  | .rptr t j i o, K => match Nat.blt j lim with | true => K (.rptr t j i o) | false => K .top
  | .agg cs, K => noRCL lim cs fun l => K (.agg l)
  | .tup cs, K => noRCL lim cs fun l => K (.tup l)
  | .clo f a b, K => noRCL lim a fun a => noRCL lim b fun b => K (.clo f a b)
  | v, K => K v
def noRCL (lim : Nat) : List AV → (List AV → Prop) → Prop
  | [], K => K []
  | c :: r, K => noRC lim c fun c => noRCL lim r fun r => K (c :: r)
end
mutual
theorem noRC_eq (lim : Nat) : ∀ (v : AV) (K : AV → Prop), noRC lim v K = K (noR lim v)
  | .top, _ => rfl
  | .tt, _ => rfl
  | .ff, _ => rfl
  | .lit _, _ => rfl
  | .emp _, _ => rfl
  | .bl _ _, _ => rfl
  | .agg cs, K => by simp only [noRC, noR]; exact noRCL_eq lim cs _
  | .tup cs, K => by simp only [noRC, noR]; exact noRCL_eq lim cs _
  | .vec _ _, _ => rfl
  | .own t j o n c, K => by simp only [noRC, noR]; cases Nat.blt j lim <;> rfl
  | .ptr j o, K => by simp only [noRC, noR]; cases Nat.blt j lim <;> rfl
  | .rptr t j i o, K => by simp only [noRC, noR]; cases Nat.blt j lim <;> rfl
  | .vptr _ _ _ _, _ => rfl
  | .clo f a b, K => by simp only [noRC, noR]; rw [noRCL_eq lim a, noRCL_eq lim b]
theorem noRCL_eq (lim : Nat) : ∀ (cs : List AV) (K : List AV → Prop), noRCL lim cs K = K (noRL lim cs)
  | [], _ => rfl
  | c :: r, K => by simp only [noRCL, noRL]; rw [noRC_eq lim c, noRCL_eq lim r]
end

theorem noRL_length (lim : Nat) : ∀ cs : List AV, (noRL lim cs).length = cs.length
  | [] => rfl
  | c :: r => by simp only [noRL, List.length_cons]; rw [noRL_length lim r]
theorem noRL_get {lim : Nat} {cs : List AV} {i : Nat} {c : AV} (h : (noRL lim cs)[i]? = some c) : ∃ c', cs[i]? = some c' ∧ c = noR lim c' := by
  induction cs generalizing i with
  | nil => simp [noRL] at h
  | cons a r ih =>
    simp only [noRL] at h
    cases i with
    | zero => simp at h; exact ⟨a, by simp, h.symm⟩
    | succ i => simp at h; simpa using ih h

/-- Behind a call that may have turned own memory. -/
theorem Rep.noR {w w' : World} {g g' : G} {lim : Nat} {v : AV} {x : Value} (hl : LeG lim g g') (ht : Tr g w w') (h : Rep w g lim v x) : Rep w' g' lim (noR lim v) x := by
  have hal : ∀ k, Nat.blt k lim = true → g'.al k → g.al k ∧ g'.be k = g.be k ∧ g'.sz k = g.sz k := fun k he ha => hl.al k (Nat.le_of_ble_eq_true he) ha
  induction h with
  | top x => exact .top x
  | tt => exact .tt
  | ff => exact .ff
  | lit v => exact .lit v
  | agg cs xs hl h ih => exact .agg _ xs (by rw [noRL_length]; exact hl) fun i c x hc hx => by obtain ⟨c', h1, rfl⟩ := noRL_get hc; exact ih i c' x h1 hx
  | tup cs xs hl h ih => exact .tup _ xs (by rw [noRL_length]; exact hl) fun i c x hc hx => by obtain ⟨c', h1, rfl⟩ := noRL_get hc; exact ih i c' x h1 hx
  | vecE t a cap => exact .vecE t a cap
  | vec t l b o cap xs hc hr hw h ih =>
    exact Rep.mono' ⟨hl.ro, ht.same⟩ (Nat.le_refl _) (.vec t l b o cap xs hc hr hw h) fun k hm => Bool.noConfusion hm
  | emp t a => exact .emp t a
  | bl p q b hp hq => exact .bl p q b hp hq
  | own t j off len b cap c hk hc hcc h =>
    simp only [Eng.noR]
    cases he : Nat.blt j lim with
    | false => exact .top _
    | true => exact .own t j off len b cap c hk hc hcc fun ha => by obtain ⟨e1, e2, e3⟩ := hal j he ha; rw [e2, e3]; exact h e1
  | ownE t j off c ad hk hcc =>
    simp only [Eng.noR]
    cases he : Nat.blt j lim with
    | false => exact .top _
    | true => exact .ownE t j off c ad hk hcc
  | ptr j off b hk h =>
    simp only [Eng.noR]
    cases he : Nat.blt j lim with
    | false => exact .top _
    | true => exact .ptr j off b hk fun ha => by obtain ⟨e1, e2, e3⟩ := hal j he ha; rw [e2]; exact h e1
  | rptr t j i off b hk h =>
    simp only [Eng.noR]
    cases he : Nat.blt j lim with
    | false => exact .top _
    | true => exact .rptr t j i off b hk fun ha => by obtain ⟨e1, e2, e3⟩ := hal j he ha; rw [e2]; exact h e1
  | vptr t l i off b o xs hr hw h ih =>
    exact Rep.mono' ⟨hl.ro, ht.same⟩ (Nat.le_refl _) (.vptr t l i off b o xs hr hw h) fun k hm => Bool.noConfusion hm
  | clo fn fs cs fs' cs' hl' h hl'' h' ih ih' =>
    exact .clo fn _ _ fs' cs' (by rw [noRL_length]; exact hl') (fun i c x hc hx => by obtain ⟨c', h1, rfl⟩ := noRL_get hc; exact ih i c' x h1 hx)
      (by rw [noRL_length]; exact hl'') (fun i c x hc hx => by obtain ⟨c', h1, rfl⟩ := noRL_get hc; exact ih' i c' x h1 hx)

theorem RepL.noR {w w' : World} {g g' : G} {lim : Nat} {fr : List AV} {xs : Array Value} (hl : LeG lim g g') (ht : Tr g w w') (h : RepL w g lim fr xs) : RepL w' g' lim (noRL lim fr) xs :=
  ⟨by rw [noRL_length]; exact h.1, fun i c x hc hx => by obtain ⟨c', h1, rfl⟩ := noRL_get hc; exact (h.2 i c' x h1 hx).noR hl ht⟩

/-- A CALL THAT MAY TURN OWN MEMORY. -/
structure ICall (P : Program) (base : Nat) (fn : FuncId) (args : List AV) (m : Mem) (K : AV → Mem → Prop) : Prop where
  go : ∀ (w : World) (g : G) (vs : Array Value), MSim w g (base + L) (mget m) → RepL w g (base + L) args vs →
    Calls P fn vs w fun e w' => ∃ v x g' m', e = .returned x ∧ Rep w' g' (base + L) v x ∧ MSim w' g' (base + L) (mget m') ∧ Tr g w w' ∧ LeG (base + L) g g' ∧ K v m'

end Eng
