/- A CALL PROVED ONCE, second part: the theorem. -/
import Derived.Test.YtdbnihckckekcaaLift
set_option linter.unusedSimpArgs false
set_option linter.unusedVariables false
namespace Eng
open Go Go.RowKit

/-- A call at the numbers of 'm0'; 'm1' is own memory behind it. -/
def Ev1 (P : Program) (fid : FuncId) (args : List AV) (m0 : Mem) (v : AV) (m1 : Mem) : Prop :=
  ∀ (w : World) (g : G) (vs : Array Value), MSim w g L (mget m0) → RepL w g L args vs →
    Calls P fid vs w fun e w' => ∃ x g', e = .returned x ∧ Rep w' g' L v x ∧ MSim w' g' L (mget m1) ∧ Tr g w w' ∧ LeG L g g'

theorem Ev1.of_ev {P : Program} {C : Cfg2} (hC : Cfg2Ok P C) {fid : FuncId} {fn : Func} {c : Code} (hf : P.funcs[fid]? = some fn) (hb : fn.body = some c) {nt : Nat} {args : List AV} {m0 m1 : Mem} {v : AV}
    (hn : fn.ntmps - args.length = nt) (h : ev P C L c (bodyK P L fn.results.toList fun v' m' => Le v' v ∧ m' = m1) (args ++ undefs nt) m0) : Ev1 P fid args m0 v m1 := by
  intro w g vs hm ha
  refine (calls_of_ev hC hf hb hn h hm ha).mono fun e w' ⟨v', x, g', m', e1, e2, e3, e4, e5, e6, e7⟩ => ?_
  subst e7
  exact ⟨x, g', e1, e6 _ _ _ _ e2, e3, e4, e5⟩

def asc : List (Nat × Nat) → Nat → Nat
  | [], _ => 0
  | (i, a) :: r, k => match Nat.beq i k with | true => a | false => asc r k
/-- The other way. -/
def asb : List (Nat × Nat) → Nat → Option Nat
  | [], _ => none
  | (i, a) :: r, k => match Nat.beq a k with | true => some i | false => asb r k
def hasD : List (Nat × Nat) → Nat → Bool
  | [], _ => false
  | (i, _) :: r, k => match Nat.beq i k with | true => true | false => hasD r k
def hasR : List (Nat × Nat) → Nat → Bool
  | [], _ => false
  | (_, a) :: r, k => match Nat.beq a k with | true => true | false => hasR r k
def injB : List (Nat × Nat) → Bool
  | [] => true
  | (i, a) :: r => match hasD r i with | true => false | false => match hasR r a with | true => false | false => injB r
def hasK : Mem → Nat → Bool
  | [], _ => false
  | (i, _) :: r, k => match Nat.beq i k with | true => true | false => hasK r k

theorem hasK_some {m : Mem} {k : Nat} : hasK m k = (mget m k).isSome := by
  induction m with
  | nil => rfl
  | cons p r ih =>
    obtain ⟨i, b⟩ := p
    simp only [hasK, mget]
    cases Nat.beq i k with
    | true => rfl
    | false => exact ih
theorem hasR_asc {l : List (Nat × Nat)} {k : Nat} (h : hasD l k = true) : hasR l (asc l k) = true := by
  induction l with
  | nil => cases h
  | cons p r ih =>
    obtain ⟨i, a⟩ := p
    simp only [hasD] at h
    simp only [asc]
    cases hi : Nat.beq i k with
    | true => simp only [hasR, Nat.beq_refl]
    | false =>
      rw [hi] at h
      simp only [hasR]
      cases Nat.beq a (asc r k) with
      | true => rfl
      | false => exact ih h
theorem asb_asc {l : List (Nat × Nat)} (hi : injB l = true) {k : Nat} (h : hasD l k = true) : asb l (asc l k) = some k := by
  induction l with
  | nil => cases h
  | cons p r ih =>
    obtain ⟨i, a⟩ := p
    simp only [injB] at hi
    split at hi
    · cases hi
    split at hi
    · cases hi
    rename_i h1 h2
    simp only [hasD] at h
    simp only [asc, asb]
    cases hik : Nat.beq i k with
    | true => simp only [Nat.beq_refl]; rw [nbt.1 hik]
    | false =>
      rw [hik] at h
      simp only
      cases ha : Nat.beq a (asc r k) with
      | true => have := hasR_asc h; rw [← nbt.1 ha, h2] at this; cases this
      | false => exact ih hi h
theorem asb_some {l : List (Nat × Nat)} {k j : Nat} (hi : injB l = true) (h : asb l k = some j) : hasD l j = true ∧ asc l j = k := by
  induction l with
  | nil => cases h
  | cons p r ih =>
    obtain ⟨i, a⟩ := p
    simp only [injB] at hi
    split at hi
    · cases hi
    split at hi
    · cases hi
    rename_i _ h1 _ h2
    simp only [asb] at h
    cases ha : Nat.beq a k with
    | true =>
      rw [ha] at h; cases h
      exact ⟨by simp [hasD, Nat.beq_refl], by simp [asc, Nat.beq_refl, nbt.1 ha]⟩
    | false =>
      rw [ha] at h
      obtain ⟨e1, e2⟩ := ih hi h
      have hij : Nat.beq i j = false := by
        cases hb : Nat.beq i j with
        | false => rfl
        | true => rw [nbt.1 hb] at h1; rw [e1] at h1; cases h1
      exact ⟨by simp [hasD, hij, e1], by simp [asc, hij, e2]⟩

/-- All blocks' names satisfy p; all keys satisfy q. -/
def memOk (p q : Nat → Bool) : Mem → Bool
  | [] => true
  | (k, b) :: r => match q k with
    | false => false
    | true => match b with
      | .box cs => match namL p cs with | true => memOk p q r | false => false
      | .row _ _ => memOk p q r
theorem memOk_get {p q : Nat → Bool} : ∀ {m : Mem}, memOk p q m = true → ∀ {k b}, mget m k = some b → q k = true ∧ ∀ cs, b = .box cs → namL p cs = true
  | [], _, k, b, h => by simp [mget] at h
  | (i, c) :: r, h, k, b, hb => by
    simp only [memOk] at h
    split at h
    · cases h
    rename_i hq
    simp only [mget] at hb
    cases c with
    | box cs =>
      simp only at h
      split at h
      · rename_i hc
        split at hb
        · rename_i hik; cases hb
          exact ⟨by rw [← nbt.1 hik]; exact hq, fun cs' e => by cases e; exact hc⟩
        · exact memOk_get h hb
      · cases h
    | row t l =>
      simp only at h
      split at hb
      · rename_i hik; cases hb
        exact ⟨by rw [← nbt.1 hik]; exact hq, fun cs' e => by cases e⟩
      · exact memOk_get h hb

/-- What is read of the caller's blocks; what becomes of them. -/
def rdR (ρ : Nat → Nat) : Mem → List (Nat × Blk)
  | [] => []
  | (k, b) :: r => (ρ k, renB ρ b) :: rdR ρ r
def dlR (ρ : Nat → Nat) : Mem → List (Nat × Option Blk)
  | [] => []
  | (k, _) :: r => (ρ k, none) :: dlR ρ r
def ptR (ρ : Nat → Nat) : Mem → List (Nat × Option Blk)
  | [] => []
  | (k, b) :: r => (ρ k, some (renB ρ b)) :: ptR ρ r
def catU : List (Nat × Option Blk) → List (Nat × Option Blk) → List (Nat × Option Blk)
  | [], b => b
  | p :: r, b => p :: catU r b
def frR (ρ : Nat → Nat) (m0 : Mem) : Mem → List Nat
  | [] => []
  | (k, _) :: r => match hasK m0 k with | true => frR ρ m0 r | false => ρ k :: frR ρ m0 r

/-- Numbers that are new lie in the call's own room. -/
def newB (base : Nat) (ρ : Nat → Nat) (m0 : Mem) : Mem → Bool
  | [] => true
  | (k, _) :: r => match hasK m0 k with
    | true => newB base ρ m0 r
    | false => match Nat.ble base (ρ k) with
      | true => match Nat.blt (ρ k) (base + L) with
        | true => newB base ρ m0 r
        | false => false
      | false => false
def distK : Mem → Bool
  | [] => true
  | (k, _) :: r => match hasK r k with | true => false | false => distK r

def liftB (base : Nat) (l : List (Nat × Nat)) (args : List AV) (m0 : Mem) (v : AV) (m1 : Mem) : Bool :=
  match injB l with
  | false => false
  | true => match memOk (hasK m0) (fun k => match hasD l k with | true => Nat.blt k L | false => false) m0 with
    | false => false
    | true => match memOk (hasK m1) (hasD l) m1 with
      | false => false
      | true => match namL (hasK m0) args with
        | false => false
        | true => match namB (hasK m1) v with
          | false => false
          | true => match distK m1 with
            | false => false
            | true => newB base (asc l) m0 m1

theorem catU_eq (a b : List (Nat × Option Blk)) : catU a b = a ++ b := by
  induction a with
  | nil => rfl
  | cons p r ih => simp [catU, ih]
theorem putsM_app (a b : List (Nat × Option Blk)) (m : Nat → Option Blk) : putsM (a ++ b) m = putsM b (putsM a m) := by
  induction a generalizing m with
  | nil => rfl
  | cons p r ih => obtain ⟨k, x⟩ := p; simp only [List.cons_append, putsM]; exact ih _

theorem dlR_get {l : List (Nat × Nat)} {m0 : Mem} (hd : ∀ k, hasK m0 k = true → hasD l k = true) (hi : injB l = true) : ∀ (m : Nat → Option Blk) (k : Nat),
    putsM (dlR (asc l) m0) m k = (match asb l k with | some j => (match hasK m0 j with | true => none | false => m k) | none => m k) := by
  induction m0 with
  | nil => intro m k; simp only [dlR, putsM, hasK]; split <;> rfl
  | cons p r ih =>
    obtain ⟨i, b⟩ := p
    intro m k
    have hdi : hasD l i = true := hd i (by simp [hasK, Nat.beq_refl])
    simp only [dlR, putsM]
    rw [ih (fun k hk => hd k (by simp only [hasK]; split <;> first | rfl | exact hk))]
    cases hb : asb l k with
    | none =>
      simp only
      have : asc l i ≠ k := fun e => by rw [← e, asb_asc hi hdi] at hb; cases hb
      exact put_ne _ _ this
    | some j =>
      simp only [hasK]
      obtain ⟨q1, q2⟩ := asb_some hi hb
      cases hij : Nat.beq i j with
      | true =>
        have := nbt.1 hij
        subst this
        rw [q2]
        cases hasK r i with
        | true => rfl
        | false => simp [put]
      | false =>
        have : asc l i ≠ k := fun e => by rw [← e, asb_asc hi hdi] at hb; cases hb; exact nbf.1 hij rfl
        rw [put_ne _ _ this]

theorem ptR_get {l : List (Nat × Nat)} {m1 : Mem} (hd : ∀ k, hasK m1 k = true → hasD l k = true) (hi : injB l = true) (hk : distK m1 = true) : ∀ (m : Nat → Option Blk) (k : Nat),
    putsM (ptR (asc l) m1) m k = (match asb l k with | some j => (match mget m1 j with | some b => some (renB (asc l) b) | none => m k) | none => m k) := by
  induction m1 with
  | nil => intro m k; simp only [ptR, putsM, mget]; split <;> rfl
  | cons p r ih =>
    obtain ⟨i, b⟩ := p
    intro m k
    simp only [distK] at hk
    split at hk
    · cases hk
    rename_i hri
    have hdi : hasD l i = true := hd i (by simp [hasK, Nat.beq_refl])
    simp only [ptR, putsM]
    rw [ih (fun k hk => hd k (by simp only [hasK]; split <;> first | rfl | exact hk)) hk]
    cases hb : asb l k with
    | none =>
      simp only
      have : asc l i ≠ k := fun e => by rw [← e, asb_asc hi hdi] at hb; cases hb
      exact put_ne _ _ this
    | some j =>
      simp only [mget]
      obtain ⟨q1, q2⟩ := asb_some hi hb
      cases hij : Nat.beq i j with
      | true =>
        have := nbt.1 hij
        subst this
        rw [hasK_some] at hri
        cases hm : mget r i with
        | some _ => rw [hm] at hri; cases hri
        | none => simp only; rw [q2]; simp [put]
      | false =>
        have : asc l i ≠ k := fun e => by rw [← e, asb_asc hi hdi] at hb; cases hb; exact nbf.1 hij rfl
        rw [put_ne _ _ this]

theorem frR_mem {ρ : Nat → Nat} {m0 m1 : Mem} {k : Nat} : k ∈ frR ρ m0 m1 ↔ ∃ j, hasK m1 j = true ∧ hasK m0 j = false ∧ ρ j = k := by
  induction m1 with
  | nil => simp [frR, hasK]
  | cons p r ih =>
    obtain ⟨i, b⟩ := p
    simp only [frR]
    cases h0 : hasK m0 i with
    | true =>
      simp only
      rw [ih]
      constructor
      · rintro ⟨j, h1, h2, h3⟩; exact ⟨j, by simp only [hasK]; split <;> first | rfl | exact h1, h2, h3⟩
      · rintro ⟨j, h1, h2, h3⟩
        simp only [hasK] at h1
        split at h1
        · rename_i hij; rw [← nbt.1 hij, h0] at h2; cases h2
        · exact ⟨j, h1, h2, h3⟩
    | false =>
      simp only [List.mem_cons]
      rw [ih]
      constructor
      · rintro (rfl | ⟨j, h1, h2, h3⟩)
        · exact ⟨i, by simp [hasK, Nat.beq_refl], h0, rfl⟩
        · exact ⟨j, by simp only [hasK]; split <;> first | rfl | exact h1, h2, h3⟩
      · rintro ⟨j, h1, h2, h3⟩
        simp only [hasK] at h1
        split at h1
        · rename_i hij; rw [nbt.1 hij]; exact .inl h3.symm
        · exact .inr ⟨j, h1, h2, h3⟩
theorem newB_ok {base : Nat} {ρ : Nat → Nat} {m0 m1 : Mem} (h : newB base ρ m0 m1 = true) {j : Nat} (h1 : hasK m1 j = true) (h2 : hasK m0 j = false) : base ≤ ρ j ∧ ρ j < base + L := by
  induction m1 with
  | nil => cases h1
  | cons p r ih =>
    obtain ⟨i, b⟩ := p
    simp only [newB] at h
    simp only [hasK] at h1
    split at h
    · rename_i h0
      split at h1
      · rename_i hij; rw [← nbt.1 hij, h0] at h2; cases h2
      · exact ih h h1
    · split at h
      · rename_i hb1
        split at h
        · rename_i hb2
          split at h1
          · rename_i hij; rw [← nbt.1 hij]; exact ⟨Nat.le_of_ble_eq_true hb1, Nat.le_of_ble_eq_true hb2⟩
          · exact ih h h1
        · cases h
      · cases h

mutual
theorem men_fgt_of (j k : Nat) : ∀ v : AV, men k v = false → men k (fgt j v) = false
  | .top, _ => rfl
  | .tt, _ => rfl
  | .ff, _ => rfl
  | .emp _, _ => rfl
  | .bl _ _, _ => rfl
  | .lit _, _ => rfl
  | .agg cs, h => by simp only [fgt, men]; exact menL_fgt_of j k cs (by simpa [men] using h)
  | .tup cs, h => by simp only [fgt, men]; exact menL_fgt_of j k cs (by simpa [men] using h)
  | .vec _ _, _ => rfl
  | .own t i o n c, h => by simp only [fgt]; cases Nat.beq i j <;> first | rfl | exact h
  | .ptr i o, h => by simp only [fgt]; cases Nat.beq i j <;> first | rfl | exact h
  | .rptr t i x o, h => by simp only [fgt]; cases Nat.beq i j <;> first | rfl | exact h
  | .vptr _ _ _ _, _ => rfl
  | .clo f a b, h => by
    simp only [men] at h
    cases ha : menL k a with
    | true => rw [ha] at h; cases h
    | false => rw [ha] at h; simp only [fgt, men]; rw [menL_fgt_of j k a ha]; exact menL_fgt_of j k b h
theorem menL_fgt_of (j k : Nat) : ∀ cs : List AV, menL k cs = false → menL k (fgtL j cs) = false
  | [], _ => rfl
  | c :: r, h => by
    simp only [menL] at h
    cases hc : men k c with
    | true => rw [hc] at h; cases h
    | false => rw [hc] at h; simp only [fgtL, menL]; rw [men_fgt_of j k c hc]; exact menL_fgt_of j k r h
end
theorem menB_fgt_of (j k : Nat) {b : Blk} (h : menB k b = false) : menB k (fgtB j b) = false := by
  cases b with
  | box cs => exact menL_fgt_of j k cs h
  | row t l => rfl

theorem fgtsF_rep {w : World} {g : G} {lim : Nat} (ks : List Nat) : ∀ {f : List AV} {xs : Array Value}, RepL w g lim f xs → RepL w g lim (fgtsF ks f) xs := by
  induction ks with
  | nil => intro f xs h; exact h
  | cons j r ih => intro f xs h; exact ih (h.fgt j)
theorem fgtsF_men (ks : List Nat) : ∀ (f : List AV) (k : Nat), (k ∈ ks ∨ menL k f = false) → menL k (fgtsF ks f) = false := by
  induction ks with
  | nil => intro f k h; rcases h with h | h; cases h; exact h
  | cons j r ih =>
    intro f k h
    simp only [fgtsF]
    apply ih
    rcases h with h | h
    · rcases List.mem_cons.1 h with rfl | h
      · exact .inr (menL_fgtL _ _)
      · exact .inl h
    · exact .inr (menL_fgt_of j k f h)
theorem fgtsM_ok {w : World} {g : G} {lim : Nat} (ks : List Nat) : ∀ {m : Nat → Option Blk}, MSim w g lim m → MSim w g lim (fgtsM ks m) := by
  induction ks with
  | nil => intro m h; exact h
  | cons j r ih => intro m h; exact ih (h.fgt j)
theorem fgtsM_men (ks : List Nat) : ∀ (m : Nat → Option Blk) (k : Nat), (k ∈ ks ∨ ∀ i b, m i = some b → menB k b = false) → ∀ i b, fgtsM ks m i = some b → menB k b = false := by
  induction ks with
  | nil => intro m k h; rcases h with h | h; cases h; exact h
  | cons j r ih =>
    intro m k h
    simp only [fgtsM]
    apply ih
    have hb : ∀ i b, fgtM j m i = some b → ∃ b', m i = some b' ∧ b = fgtB j b' := fun i b hb => by
      simp only [fgtM, Option.map_eq_some_iff] at hb
      obtain ⟨b', h1, h2⟩ := hb; exact ⟨b', h1, h2.symm⟩
    rcases h with h | h
    · rcases List.mem_cons.1 h with rfl | h
      · exact .inr fun i b hb' => by obtain ⟨b', _, rfl⟩ := hb i b hb'; exact menB_fgtB _ b'
      · exact .inl h
    · exact .inr fun i b hb' => by obtain ⟨b', h1, rfl⟩ := hb i b hb'; exact menB_fgt_of j k (h i b' h1)
theorem fgtsM_some {ks : List Nat} : ∀ {m : Nat → Option Blk} {k : Nat}, (fgtsM ks m k).isSome = (m k).isSome := by
  induction ks with
  | nil => intro m k; rfl
  | cons j r ih => intro m k; simp only [fgtsM]; rw [ih]; simp [fgtM]

theorem rdR_mem {ρ : Nat → Nat} {m0 : Mem} {m : Nat → Option Blk} (h : ∀ p ∈ rdR ρ m0, m p.1 = some p.2) {j : Nat} {b : Blk} (hb : mget m0 j = some b) : m (ρ j) = some (renB ρ b) := by
  induction m0 with
  | nil => simp [mget] at hb
  | cons p r ih =>
    obtain ⟨i, c⟩ := p
    simp only [mget] at hb
    split at hb
    · rename_i hij; cases hb
      rw [← nbt.1 hij]
      exact h (ρ i, renB ρ b) (by simp [rdR])
    · exact ih (fun p hp => h p (by simp [rdR, hp])) hb

theorem Ev1.cact {P : Program} {fid : FuncId} {args : List AV} {m0 m1 : Mem} {v : AV} (h : Ev1 P fid args m0 v m1) (base : Nat) (l : List (Nat × Nat)) (hok : liftB base l args m0 v m1 = true) :
    CAct P base fid (renL (asc l) args) ⟨renV (asc l) v, rdR (asc l) m0, catU (dlR (asc l) m0) (ptR (asc l) m1), frR (asc l) m0 m1⟩ := by
  unfold liftB at hok
  split at hok
  · cases hok
  rename_i hinj
  split at hok
  · cases hok
  rename_i hm0
  split at hok
  · cases hok
  rename_i hm1
  split at hok
  · cases hok
  rename_i hargs
  split at hok
  · cases hok
  rename_i hv
  split at hok
  · cases hok
  rename_i hdist
  refine ⟨fun m hrd w g vs hm hr => ?_⟩
  have k0 : ∀ j, hasK m0 j = true → hasD l j = true ∧ j < L := fun j hj => by
    rw [hasK_some] at hj
    obtain ⟨b, hb⟩ := Option.isSome_iff_exists.1 hj
    have := (memOk_get hm0 hb).1
    split at this
    · rename_i hd; exact ⟨hd, Nat.le_of_ble_eq_true this⟩
    · cases this
  have k1 : ∀ j, hasK m1 j = true → hasD l j = true := fun j hj => by
    rw [hasK_some] at hj
    obtain ⟨b, hb⟩ := Option.isSome_iff_exists.1 hj
    exact (memOk_get hm1 hb).1
  have hal0 : ∀ j, hasK m0 j = true → g.al (asc l j) := fun j hj => by
    rw [hasK_some] at hj
    obtain ⟨b, hb⟩ := Option.isSome_iff_exists.1 hj
    exact (hm.al _).2 (by rw [rdR_mem hrd hb]; rfl)
  have hinj2 : ∀ i j, hasD l i = true → hasD l j = true → asc l i = asc l j → i = j := fun i j hi hj e => by
    have h1 := asb_asc hinj hi
    rw [e, asb_asc hinj hj] at h1; cases h1; rfl
  -- the callee's ghost
  let g0 : G := { ro := g.ro, no := fun b => g.no b ∨ ∃ k, g.al k ∧ 0 < g.sz k ∧ g.be k = b ∧ ∀ j, hasK m0 j = true → asc l j ≠ k, al := fun j => hasK m0 j = true, be := fun j => g.be (asc l j), sz := fun j => g.sz (asc l j) }
  let σ : Nat → Nat := fun k => (asb l k).getD 0
  have hσ : ∀ j, hasD l j = true → σ (asc l j) = j := fun j hj => by simp only [σ]; rw [asb_asc hinj hj]; rfl
  let p0 : Nat → Bool := fun k => match asb l k with | some j => hasK m0 j | none => false
  have hp0 : ∀ j, hasK m0 j = true → p0 (asc l j) = true := fun j hj => by simp only [p0]; rw [asb_asc hinj (k0 j hj).1]; exact hj
  have hpσ : ∀ k, p0 k = true → (σ k < L ∨ σ k % 2 = 1) ∧ (g0.al (σ k) → g.al k ∧ g0.be (σ k) = g.be k ∧ g0.sz (σ k) = g.sz k) := by
    intro k hk
    simp only [p0] at hk
    cases hb : asb l k with
    | none => rw [hb] at hk; cases hk
    | some j =>
      rw [hb] at hk
      obtain ⟨q1, q2⟩ := asb_some hinj hb
      have e : σ k = j := by simp only [σ, hb]; rfl
      rw [e]
      exact ⟨.inl (k0 j hk).2, fun _ => ⟨by rw [← q2]; exact hal0 j hk, by simp only [g0]; rw [q2], by simp only [g0]; rw [q2]⟩⟩
  have hkw : Keeps w w g g0 := ⟨fun _ h => h, fun _ _ => rfl⟩
  have hm00 : MSim w g0 L (mget m0) := by
    refine ⟨fun j => by rw [← hasK_some], fun j hj => .inl (k0 j hj).2, fun j hj hz => hm.nro _ (hal0 j hj) hz, fun i j hi hj zi zj e => hinj2 i j (k0 i hi).1 (k0 j hj).1 (hm.inj _ _ (hal0 i hi) (hal0 j hj) zi zj e), fun j b hb => ?_, hm.rolt, fun b hb => ?_⟩
    · have h1 := (hm.blk _ _ (rdR_mem hrd hb)).ren hkw hpσ (fun _ => rfl) (fun cs hcs => by
        cases b with
        | row t l => cases hcs
        | box cs0 => cases hcs; exact namL_ren hp0 cs0 ((memOk_get hm0 hb).2 cs0 rfl))
      have h2 : renB σ (renB (asc l) b) = b := by
        cases b with
        | row t l => rfl
        | box cs0 => simp only [renB]; rw [renL_inv (fun k hk => hσ k (k0 k hk).1) cs0 ((memOk_get hm0 hb).2 cs0 rfl)]
      rwa [h2] at h1
    · rcases hb with hb | ⟨k, hk, hz, rfl, hne⟩
      · exact ⟨(hm.nof b hb).1, (hm.nof b hb).2.1, fun j hj hz => (hm.nof b hb).2.2 _ (hal0 j hj) hz⟩
      · exact ⟨hm.lt_heap hk hz, hm.nro k hk hz, fun j hj hz2 e => hne j hj (hm.inj _ _ (hal0 j hj) hk hz2 hz e)⟩
  have hr0 : RepL w g0 L args vs := by
    refine ⟨by have := hr.1; rw [renL_length] at this; exact this, fun i c x hc hx => ?_⟩
    have hc2 : (renL (asc l) args)[i]? = some (renV (asc l) c) := by
      have hlt : i < (renL (asc l) args).length := by rw [renL_length]; exact (List.getElem?_eq_some_iff.1 hc).1
      obtain ⟨c', h1, h2⟩ := renL_get (List.getElem?_eq_getElem hlt)
      rw [hc] at h1; cases h1
      rw [List.getElem?_eq_getElem hlt, h2]
    have hn := namL_get hargs hc
    have h1 := (hr.2 i _ x hc2 hx).ren hkw hpσ (namV_ren hp0 c hn)
    rwa [renV_inv (fun k hk => hσ k (k0 k hk).1) c hn] at h1
  refine (h w g0 vs hm00 hr0).mono fun e w' ⟨x, g', e1, e2, e3, e4, e5⟩ => ?_
  let be2 : Nat → Nat := fun k => match asb l k with | some j => (match hasK m1 j with | true => g'.be j | false => g.be k) | none => g.be k
  let sz2 : Nat → Nat := fun k => match asb l k with | some j => (match hasK m1 j with | true => g'.sz j | false => g.sz k) | none => g.sz k
  let New : Nat → Nat → Prop := fun k j => asb l k = some j ∧ hasK m1 j = true
  let Old : Nat → Prop := fun k => g.al k ∧ (∀ j, ¬ New k j) ∧ ∀ j, hasK m0 j = true → asc l j ≠ k
  let g2 : G := { ro := g'.ro, no := g.no, al := fun k => (∃ j, New k j) ∨ Old k, be := be2, sz := sz2 }
  have hnew : ∀ k j, New k j → be2 k = g'.be j ∧ sz2 k = g'.sz j := fun k j hn => ⟨by simp only [be2]; rw [hn.1]; simp only [hn.2], by simp only [sz2]; rw [hn.1]; simp only [hn.2]⟩
  have hold : ∀ k, (∀ j, ¬ New k j) → be2 k = g.be k ∧ sz2 k = g.sz k := fun k hn => by
    simp only [be2, sz2]
    cases hb : asb l k with
    | none => exact ⟨rfl, rfl⟩
    | some j =>
      simp only
      cases hj : hasK m1 j with
      | true => exact absurd ⟨hb, hj⟩ (hn j)
      | false => exact ⟨rfl, rfl⟩
  have hU : ∀ k, Old k → 0 < g.sz k → g'.no (g.be k) := fun k hk hz => e5.no _ (.inr ⟨k, hk.1, hz, rfl, hk.2.2⟩)
  have hM : ∀ k, k ∉ frR (asc l) m0 m1 → g2.al k → g.al k ∧ g2.be k = g.be k ∧ g2.sz k = g.sz k := by
    intro k hk ha
    rcases ha with ⟨j, hn⟩ | ho
    · obtain ⟨q1, q2⟩ := asb_some hinj hn.1
      have hj0 : hasK m0 j = true := by
        cases hj : hasK m0 j with
        | true => rfl
        | false => exact absurd (frR_mem.2 ⟨j, hn.2, hj, q2⟩) hk
      have hal' : g'.al j := (e3.al j).2 (by rw [← hasK_some]; exact hn.2)
      obtain ⟨_, b2, b3⟩ := e5.al j (k0 j hj0).2 hal'
      refine ⟨by rw [← q2]; exact hal0 j hj0, ?_, ?_⟩
      · show be2 k = g.be k
        rw [(hnew k j hn).1, b2]; simp only [g0]; rw [q2]
      · show sz2 k = g.sz k
        rw [(hnew k j hn).2, b3]; simp only [g0]; rw [q2]
    · exact ⟨ho.1, (hold k ho.2.1).1, (hold k ho.2.1).2⟩
  have hp1 : ∀ j, hasK m1 j = true → (asc l j < base + L ∨ asc l j % 2 = 1) ∧ (g2.al (asc l j) → g'.al j ∧ g2.be (asc l j) = g'.be j ∧ g2.sz (asc l j) = g'.sz j) := by
    intro j hj
    have hn : New (asc l j) j := ⟨asb_asc hinj (k1 j hj), hj⟩
    refine ⟨?_, fun _ => ⟨(e3.al j).2 (by rw [← hasK_some]; exact hj), hnew _ _ hn⟩⟩
    cases hj0 : hasK m0 j with
    | true => exact hm.lt _ (hal0 j hj0)
    | false => exact .inl (newB_ok hok hj hj0).2
  have hkw2 : Keeps w' w' g' g2 := ⟨fun _ h => h, fun _ _ => rfl⟩
  have hkw3 : Keeps w w' g g2 := ⟨e5.ro, e4.same⟩
  have hme : ∀ k, putsM (catU (dlR (asc l) m0) (ptR (asc l) m1)) (fgtsM (frR (asc l) m0 m1) m) k =
      (match asb l k with | some j => (match mget m1 j with | some b => some (renB (asc l) b) | none => (match hasK m0 j with | true => none | false => fgtsM (frR (asc l) m0 m1) m k)) | none => fgtsM (frR (asc l) m0 m1) m k) := by
    intro k
    rw [catU_eq, putsM_app, ptR_get k1 hinj hdist, dlR_get (fun k hk => (k0 k hk).1) hinj]
    cases asb l k with
    | none => rfl
    | some j => rfl
  have hmo : ∀ k b, putsM (catU (dlR (asc l) m0) (ptR (asc l) m1)) (fgtsM (frR (asc l) m0 m1) m) k = some b → (∃ j b1, New k j ∧ mget m1 j = some b1 ∧ b = renB (asc l) b1) ∨ (Old k ∧ fgtsM (frR (asc l) m0 m1) m k = some b) := by
    intro k b hb
    rw [hme] at hb
    have hof : fgtsM (frR (asc l) m0 m1) m k = some b → g.al k := fun hb => (hm.al k).2 (by rw [← fgtsM_some (ks := frR (asc l) m0 m1), hb]; rfl)
    cases ha : asb l k with
    | none =>
      rw [ha] at hb
      refine .inr ⟨⟨hof hb, ⟨fun j hn => ?_, fun j hj e => ?_⟩⟩, hb⟩
      · have e9 : asb l k = some j := hn.1
        rw [ha] at e9; cases e9
      · rw [← e, asb_asc hinj (k0 j hj).1] at ha; cases ha
    | some j =>
      rw [ha] at hb
      simp only at hb
      cases h1 : mget m1 j with
      | some b1 => rw [h1] at hb; cases hb; exact .inl ⟨j, b1, ⟨ha, by rw [hasK_some, h1]; rfl⟩, h1, rfl⟩
      | none =>
        rw [h1] at hb
        simp only at hb
        cases h0 : hasK m0 j with
        | true => rw [h0] at hb; cases hb
        | false =>
          rw [h0] at hb
          refine .inr ⟨⟨hof hb, ⟨fun j2 hn => ?_, fun j2 hj e => ?_⟩⟩, hb⟩
          · have e9 : asb l k = some j2 := hn.1
            rw [ha] at e9; cases e9
            have := hn.2; rw [hasK_some, h1] at this; cases this
          · rw [← e, asb_asc hinj (k0 j2 hj).1] at ha; cases ha
            rw [hj] at h0; cases h0
  refine ⟨x, g2, e1, e2.ren hkw2 hp1 hv, ?_, ⟨e4.os, e4.tape, e4.output, e4.size, e4.same, fun b hb => e4.others b (.inl hb)⟩, ⟨e5.ro, fun _ h => h, fun k hk ha => hM k (fun hf => ?_) ha⟩, fun fr xs hfr => ?_⟩
  · refine ⟨fun k => ?_, fun k hk => ?_, fun k hk hz hro => ?_, fun i k hi hk zi zk he => ?_, fun k b hb => ?_, e3.rolt, fun b hb => ?_⟩
    · constructor
      · intro ha
        show (putsM _ _ k).isSome = true
        rw [hme]
        rcases ha with ⟨j, hn⟩ | ho
        · rw [hn.1]
          obtain ⟨b1, hb1⟩ := Option.isSome_iff_exists.1 (hasK_some (m := m1) ▸ hn.2)
          simp only [hb1]; rfl
        · have hs : (fgtsM (frR (asc l) m0 m1) m k).isSome = true := by rw [fgtsM_some]; exact (hm.al k).1 ho.1
          cases ha : asb l k with
          | none => exact hs
          | some j =>
            simp only
            have h1 : mget m1 j = none := by
              cases h1 : mget m1 j with
              | none => rfl
              | some b => exact absurd ⟨ha, by rw [hasK_some, h1]; rfl⟩ (ho.2.1 j)
            rw [h1]
            simp only
            cases h0 : hasK m0 j with
            | true => exact absurd (asb_some hinj ha).2 (ho.2.2 j h0)
            | false => exact hs
      · intro hs
        obtain ⟨b, hb⟩ := Option.isSome_iff_exists.1 hs
        rcases hmo k b hb with ⟨j, b1, hn, _⟩ | ⟨ho, _⟩
        · exact .inl ⟨j, hn⟩
        · exact .inr ho
    · rcases hk with ⟨j, hn⟩ | ho
      · have := (hp1 j hn.2).1; rw [(asb_some hinj hn.1).2] at this; exact this
      · exact hm.lt k ho.1
    · rcases hk with ⟨j, hn⟩ | ho
      · have hro : g'.ro (be2 k) := hro
        rw [(hnew k j hn).1] at hro
        have hz : 0 < sz2 k := hz
        rw [(hnew k j hn).2] at hz
        exact e3.nro j ((e3.al j).2 (by rw [← hasK_some]; exact hn.2)) hz hro
      · have hro : g'.ro (be2 k) := hro
        rw [(hold k ho.2.1).1] at hro
        have hz : 0 < sz2 k := hz
        rw [(hold k ho.2.1).2] at hz
        exact (e3.nof _ (hU k ho hz)).2.1 hro
    · have he : be2 i = be2 k := he
      have zi : 0 < sz2 i := zi
      have zk : 0 < sz2 k := zk
      rcases hi with ⟨j, hn⟩ | ho <;> rcases hk with ⟨j2, hn2⟩ | ho2
      · rw [(hnew i j hn).1, (hnew k j2 hn2).1] at he
        rw [(hnew i j hn).2] at zi
        rw [(hnew k j2 hn2).2] at zk
        have := e3.inj j j2 ((e3.al j).2 (by rw [← hasK_some]; exact hn.2)) ((e3.al j2).2 (by rw [← hasK_some]; exact hn2.2)) zi zk he
        subst this
        rw [← (asb_some hinj hn.1).2, ← (asb_some hinj hn2.1).2]
      · rw [(hnew i j hn).1, (hold k ho2.2.1).1] at he
        rw [(hnew i j hn).2] at zi
        rw [(hold k ho2.2.1).2] at zk
        exact absurd he ((e3.nof _ (hU k ho2 zk)).2.2 j ((e3.al j).2 (by rw [← hasK_some]; exact hn.2)) zi)
      · rw [(hold i ho.2.1).1, (hnew k j2 hn2).1] at he
        rw [(hold i ho.2.1).2] at zi
        rw [(hnew k j2 hn2).2] at zk
        exact absurd he.symm ((e3.nof _ (hU i ho zi)).2.2 j2 ((e3.al j2).2 (by rw [← hasK_some]; exact hn2.2)) zk)
      · rw [(hold i ho.2.1).1, (hold k ho2.2.1).1] at he
        rw [(hold i ho.2.1).2] at zi
        rw [(hold k ho2.2.1).2] at zk
        exact hm.inj i k ho.1 ho2.1 zi zk he
    · rcases hmo k b hb with ⟨j, b1, hn, hb1, rfl⟩ | ⟨ho, hb⟩
      · have h1 := (e3.blk j b1 hb1).ren hkw2 hp1 (fun _ => rfl) (fun cs hcs => (memOk_get hm1 hb1).2 cs hcs)
        show BlkRep w' g2 (base + L) (be2 k) (sz2 k) _
        rw [(hnew k j hn).1, (hnew k j hn).2]; exact h1
      · show BlkRep w' g2 (base + L) (be2 k) (sz2 k) _
        rw [(hold k ho.2.1).1, (hold k ho.2.1).2]
        refine ((fgtsM_ok (frR (asc l) m0 m1) hm).blk k b hb).mono' hkw3 (Nat.le_refl _) (fun hz => e4.others _ (.inr ⟨k, ho.1, hz, rfl, ho.2.2⟩)) fun k2 hk2 _ ha => hM k2 (fun hf => ?_) ha
        have := fgtsM_men (frR (asc l) m0 m1) m k2 (.inl hf) k b hb
        rw [hk2] at this; cases this
    · have hn := e3.nof b (e5.no b (.inl hb))
      refine ⟨hn.1, hn.2.1, fun k hk hz => ?_⟩
      have hz : 0 < sz2 k := hz
      rcases hk with ⟨j, hnw⟩ | ho
      · show be2 k ≠ b
        rw [(hnew k j hnw).2] at hz
        rw [(hnew k j hnw).1]; exact hn.2.2 j ((e3.al j).2 (by rw [← hasK_some]; exact hnw.2)) hz
      · show be2 k ≠ b
        rw [(hold k ho.2.1).2] at hz
        rw [(hold k ho.2.1).1]; exact (hm.nof b hb).2.2 k ho.1 hz
  · obtain ⟨j, h1, h2, h3⟩ := frR_mem.1 hf
    have := (newB_ok hok h1 h2).1
    omega
  · have h1 := fgtsF_rep (frR (asc l) m0 m1) hfr
    refine ⟨h1.1, fun i c x hc hx => (h1.2 i c x hc hx).mono' hkw3 (Nat.le_refl _) fun k hk _ ha => hM k (fun hf => ?_) ha⟩
    have := fgtsF_men (frR (asc l) m0 m1) fr k (.inl hf)
    rw [menL_get hc hk] at this; cases this

end Eng
