/- Closures as results; contracts of view; homesteadlaw19.ViewCounts. -/
import Derived.Test.YtelgmmcnopjolaaGc
import Derived.Test.YtelgmmcnopjolaaGg
import Derived.Test.YtelgmmcnopjolaaGe
/- A contract whose result holds variables (a closure and what it captures): own blocks are given new numbers at the end. -/
set_option linter.unusedSimpArgs false
set_option linter.unusedVariables false
namespace Eng
open Go Go.RowKit

def keepD (l : List (Nat × Nat)) : Mem → Mem
  | [] => []
  | (k, b) :: r => match hasD l k with
    | true => (k, b) :: keepD l r
    | false => keepD l r
theorem keepD_get {l : List (Nat × Nat)} : ∀ {m : Mem} {k : Nat} {b : Blk}, mget (keepD l m) k = some b → mget m k = some b
  | [], k, b, h => by simp [keepD, mget] at h
  | (i, c) :: r, k, b, h => by
    simp only [keepD] at h
    simp only [mget]
    cases hd : hasD l i with
    | true =>
      rw [hd] at h
      simp only [mget] at h
      cases hik : Nat.beq i k with
      | true => rw [hik] at h; exact h
      | false => rw [hik] at h; exact keepD_get h
    | false =>
      rw [hd] at h
      simp only at h
      cases hik : Nat.beq i k with
      | true =>
        have := keepD_get h
        have hlk : ∀ {r : Mem}, hasD l k = false → mget (keepD l r) k = none := by
          intro r hf
          induction r with
          | nil => rfl
          | cons p r ih =>
            obtain ⟨j, e⟩ := p
            simp only [keepD]
            cases hj : hasD l j with
            | false => exact ih
            | true =>
              simp only [mget]
              cases hjk : Nat.beq j k with
              | false => exact ih
              | true => rw [nbt.1 hjk, hf] at hj; cases hj
        rw [nbt.1 hik] at hd
        rw [hlk hd] at h; cases h
      | false => exact keepD_get h
def odd1 (n : Nat) : Bool := Nat.beq (n % 2) 1
def fitT (base : Nat) : List (Nat × Nat) → Bool
  | [] => true
  | (i, a) :: r => match Nat.beq i a with
    | true => match Nat.blt a base with
      | true => fitT base r
      | false => false
    | false => match Nat.ble base a with
      | true => match odd1 a with
        | true => fitT base r
        | false => false
      | false => false
theorem fitT_ok {base : Nat} : ∀ {l : List (Nat × Nat)}, fitT base l = true → ∀ k, hasD l k = true → (asc l k = k ∧ k < base) ∨ (base ≤ asc l k ∧ asc l k % 2 = 1)
  | [], _, k, hk => by cases hk
  | (i, a) :: r, h, k, hk => by
    simp only [fitT] at h
    simp only [hasD] at hk
    simp only [asc]
    cases hik : Nat.beq i k with
    | true =>
      have e := nbt.1 hik
      subst e
      simp only
      cases hia : Nat.beq i a with
      | true =>
        rw [hia] at h
        simp only at h
        cases hb : Nat.blt a base with
        | true => exact .inl ⟨(nbt.1 hia).symm, by rw [nbt.1 hia]; exact Nat.le_of_ble_eq_true hb⟩
        | false => rw [hb] at h; cases h
      | false =>
        rw [hia] at h
        simp only at h
        cases hb : Nat.ble base a with
        | false => rw [hb] at h; cases h
        | true =>
          rw [hb] at h
          simp only at h
          cases ho : odd1 a with
          | false => rw [ho] at h; cases h
          | true => exact .inr ⟨Nat.le_of_ble_eq_true hb, nbt.1 ho⟩
    | false =>
      rw [hik] at hk
      simp only at hk ⊢
      refine fitT_ok (l := r) ?_ k hk
      cases hia : Nat.beq i a with
      | true =>
        rw [hia] at h
        simp only at h
        cases hb : Nat.blt a base with
        | true => rw [hb] at h; exact h
        | false => rw [hb] at h; cases h
      | false =>
        rw [hia] at h
        simp only at h
        cases hb : Nat.ble base a with
        | false => rw [hb] at h; cases h
        | true =>
          rw [hb] at h
          simp only at h
          cases ho : odd1 a with
          | false => rw [ho] at h; cases h
          | true => rw [ho] at h; exact h
def renC (base : Nat) (l : List (Nat × Nat)) (m : Mem) (v : AV) : Bool :=
  match injB l with
  | false => false
  | true => match fitT base l with
    | false => false
    | true => match memOk (hasD l) (hasD l) m with
      | false => false
      | true => namB (hasD l) v

theorem mget_rdR {l : List (Nat × Nat)} (hi : injB l = true) : ∀ {m : Mem}, (∀ k, hasK m k = true → hasD l k = true) → ∀ {j : Nat} {b : Blk}, mget (rdR (asc l) m) j = some b → ∃ k c, asb l j = some k ∧ mget m k = some c ∧ b = renB (asc l) c
  | [], _, j, b, h => by simp [rdR, mget] at h
  | (k, c) :: r, hd, j, b, h => by
    simp only [rdR, mget] at h
    have hk : hasD l k = true := hd k (by simp [hasK, Nat.beq_refl])
    cases hkj : Nat.beq (asc l k) j with
    | true =>
      rw [hkj] at h
      cases h
      have e := nbt.1 hkj
      exact ⟨k, c, by rw [← e]; exact asb_asc hi hk, by simp [mget, Nat.beq_refl], rfl⟩
    | false =>
      rw [hkj] at h
      obtain ⟨k2, c2, h1, h2, h3⟩ := mget_rdR hi (m := r) (fun i hh => hd i (by simp only [hasK]; split <;> simp_all)) h
      refine ⟨k2, c2, h1, ?_, h3⟩
      simp only [mget]
      cases hkk : Nat.beq k k2 with
      | false => exact h2
      | true =>
        have e := nbt.1 hkk
        subst e
        have := asb_some hi h1
        rw [this.2, Nat.beq_refl] at hkj
        cases hkj
theorem mget_rdR2 {l : List (Nat × Nat)} (hi : injB l = true) : ∀ {m : Mem}, (∀ k, hasK m k = true → hasD l k = true) → ∀ {k : Nat} {c : Blk}, mget m k = some c → mget (rdR (asc l) m) (asc l k) = some (renB (asc l) c)
  | [], _, k, c, h => by simp [mget] at h
  | (i, e) :: r, hd, k, c, h => by
    simp only [rdR, mget] at h ⊢
    have hki : hasD l i = true := hd i (by simp [hasK, Nat.beq_refl])
    cases hik : Nat.beq i k with
    | true =>
      rw [hik] at h
      cases h
      rw [nbt.1 hik, Nat.beq_refl]
    | false =>
      rw [hik] at h
      simp only at h
      have hd2 : ∀ k, hasK r k = true → hasD l k = true := fun i hh => hd i (by simp only [hasK]; split <;> simp_all)
      have hk : hasD l k = true := hd2 k (by rw [hasK_some, h]; rfl)
      have hne : Nat.beq (asc l i) (asc l k) = false := nbf.2 fun e => by
        have h1 := asb_asc hi hki
        rw [e, asb_asc hi hk] at h1
        cases h1
        rw [Nat.beq_refl] at hik; cases hik
      rw [hne]
      exact mget_rdR2 hi hd2 h

/-- All numbers turned at once. -/
theorem ren_all {base lim : Nat} {l : List (Nat × Nat)} {m : Mem} {v : AV} (hok : renC base l m v = true) {w : World} {g : G} {x : Value} (hm : MSim w g lim (mget m)) (hr : Rep w g lim v x) (hlim : base ≤ lim) :
    ∃ g', MSim w g' base (mget (rdR (asc l) m)) ∧ LeG base g g' ∧ Rep w g' base (renV (asc l) v) x := by
  unfold renC at hok
  split at hok
  · cases hok
  rename_i hinj
  split at hok
  · cases hok
  rename_i hfit
  split at hok
  · cases hok
  rename_i hmem
  have hd : ∀ k, hasK m k = true → hasD l k = true := fun k hk => by
    rw [hasK_some] at hk
    obtain ⟨b, hb⟩ := Option.isSome_iff_exists.1 hk
    exact (memOk_get hmem hb).1
  let σ : Nat → Nat := fun j => (asb l j).getD 0
  have hσ : ∀ k, hasD l k = true → σ (asc l k) = k := fun k hk => by simp only [σ]; rw [asb_asc hinj hk]; rfl
  let g' : G := { ro := g.ro, no := g.no, al := fun j => ∃ k, asb l j = some k ∧ g.al k, be := fun j => g.be (σ j), sz := fun j => g.sz (σ j) }
  have hal : ∀ {j}, g'.al j → g.al (σ j) ∧ asc l (σ j) = j ∧ hasD l (σ j) = true := fun {j} ⟨k, h1, h2⟩ => by
    obtain ⟨q1, q2⟩ := asb_some hinj h1
    have e : σ j = k := by simp only [σ, h1]; rfl
    rw [e]; exact ⟨h2, q2, q1⟩
  have hpk : ∀ k, hasD l k = true → (asc l k < base ∨ asc l k % 2 = 1) ∧ (g'.al (asc l k) → g.al k ∧ g'.be (asc l k) = g.be k ∧ g'.sz (asc l k) = g.sz k) := fun k hk => by
    refine ⟨?_, fun ha => ?_⟩
    · rcases fitT_ok hfit k hk with ⟨h1, h2⟩ | ⟨_, h2⟩
      · exact .inl (by rw [h1]; exact h2)
      · exact .inr h2
    · have h3 := (hal ha).1
      rw [hσ k hk] at h3
      exact ⟨h3, by simp only [g']; rw [hσ k hk], by simp only [g']; rw [hσ k hk]⟩
  have hkw : Keeps w w g g' := ⟨fun _ h => h, fun _ _ => rfl⟩
  refine ⟨g', ⟨fun j => ⟨fun ha => ?_, fun hs => ?_⟩, fun j ha => ?_, fun j ha hz => hm.nro _ (hal ha).1 hz, fun i j hi hj zi zj e => ?_, fun j b hb => ?_, hm.rolt, fun b hb => ⟨(hm.nof b hb).1, (hm.nof b hb).2.1, fun k ha hz => (hm.nof b hb).2.2 _ (hal ha).1 hz⟩⟩, ⟨fun _ h => h, fun _ h => h, fun k hk ha => ?_⟩, hr.ren hkw hpk hok⟩
  · obtain ⟨h1, h2, h3⟩ := hal ha
    obtain ⟨c, hc⟩ := Option.isSome_iff_exists.1 ((hm.al _).1 h1)
    have := mget_rdR2 hinj hd hc
    rw [h2] at this
    rw [this]; rfl
  · obtain ⟨b, hb⟩ := Option.isSome_iff_exists.1 hs
    obtain ⟨k, c, h1, h2, _⟩ := mget_rdR hinj hd hb
    exact ⟨k, h1, (hm.al k).2 (by rw [h2]; rfl)⟩
  · obtain ⟨h1, h2, h3⟩ := hal ha
    have := (hpk _ h3).1
    rw [h2] at this; exact this
  · have h1 := hal hi
    have h2 := hal hj
    have := hm.inj _ _ h1.1 h2.1 zi zj e
    rw [← h1.2.1, ← h2.2.1, this]
  · obtain ⟨k, c, h1, h2, rfl⟩ := mget_rdR hinj hd hb
    have e : σ j = k := by simp only [σ, h1]; rfl
    have h3 := (hm.blk k c h2).ren hkw hpk (fun _ => rfl) (fun cs hcs => (memOk_get hmem h2).2 cs hcs)
    simp only [g', e]; exact h3
  · obtain ⟨h1, h2, h3⟩ := hal ha
    rcases fitT_ok hfit _ h3 with ⟨h4, _⟩ | ⟨h4, _⟩
    · rw [h2] at h4
      simp only [g']
      rw [← h4] at h1 ⊢
      exact ⟨h1, rfl, rfl⟩
    · omega

/-- What stands behind a function's body: the numbers are turned by 'l'; then as 'endF'. -/
def endR (P : Program) (lim : Nat) (l : List (Nat × Nat)) (rs : List ResultVar) (v : AV) (m1 : Mem) : Post := fun e f m => match e with
  | .normal => resK P f m rs fun v' => renC lim l (keepD l m) v' = true ∧ finK lim [renV (asc l) v'] (rdR (asc l) (keepD l m)) [v] m1
  | .ret => resK P f m rs fun v' => renC lim l (keepD l m) v' = true ∧ finK lim [renV (asc l) v'] (rdR (asc l) (keepD l m)) [v] m1
  | .exit _ => False

theorem endR_ok {P : Program} {lim L' : Nat} {l : List (Nat × Nat)} {fn : Func} {f : List AV} {m : Mem} {v : AV} {m1 : Mem} (hL : lim ≤ L')
    (h : resK P f m fn.results.toList fun v' => renC lim l (keepD l m) v' = true ∧ finK lim [renV (asc l) v'] (rdR (asc l) (keepD l m)) [v] m1) {w : World} {g : G} {a : Act} (hs : Sim w g L' f (mget m) a) :
    ∃ x g', (results fn a.tmps).run P w = .ok x w ∧ Rep w g' lim v x ∧ MSim w g' lim (mget m1) ∧ LeG lim g g' := by
  obtain ⟨v', x, ⟨h0, h⟩, e1, e2⟩ := resK_ok h hs
  obtain ⟨g1, a1, a2, a3⟩ := hs.me.only (m1 := keepD l m) fun k b hb => keepD_get hb
  obtain ⟨g2, b1, b2, b3⟩ := ren_all h0 a1 (a3 _ _ e2) hL
  obtain ⟨g', h1, h2, h3⟩ := finK_ok h b1 #[x] ⟨rfl, fun i c y hc hy => by
    cases i with
    | zero => simp at hc hy; subst hc; subst hy; exact b3
    | succ i => simp at hc⟩
  exact ⟨x, g', e1, h3.2 0 v x (by simp) (by simp), h1, ((a2 lim).trans b2).trans h2⟩

theorem calls_of_evR {P : Program} {C : Cfg2} (hC : Cfg2Ok P C) {fid : FuncId} {fn : Func} {c : Code} (hf : P.funcs[fid]? = some fn) (hb : fn.body = some c) {base nt : Nat} {l : List (Nat × Nat)} {args : List AV} {m m1 : Mem} {v : AV}
    (hn : fn.ntmps - args.length = nt)
    (h : ev P C base c (endR P base l fn.results.toList v m1) (args ++ undefs nt) m) {w : World} {g : G} {vs : Array Value} (hm : MSim w g base (mget m)) (ha : RepL w g base args vs) :
    Calls P fid vs w fun e w' => ∃ x g', e = .returned x ∧ Rep w' g' base v x ∧ MSim w' g' base (mget m1) ∧ Tr g w w' ∧ LeG base g g' := by
  refine calls_of_wp hf hb ?_
  have hsz : args.length = vs.size := ha.1
  have hs : Sim w g (base + L) (args ++ undefs nt) (mget m) { tmps := vs ++ Array.replicate (fn.ntmps - vs.size) undef, defers := [] } := by
    refine ⟨⟨by rw [undefs_eq]; simp [hsz, ← hn], fun i c x hc hx => ?_⟩, rfl, hm.raise (Nat.le_add_right _ _)⟩
    by_cases hi : i < args.length
    · rw [List.getElem?_append_left hi] at hc
      rw [Array.getElem?_append_left (by omega)] at hx
      exact (ha.2 i c x hc hx).mono ⟨fun _ h => h, fun _ _ => rfl⟩ (Nat.le_add_right _ _) fun _ _ h => ⟨h, rfl, rfl⟩
    · rw [List.getElem?_append_right (by omega), undefs_eq, List.getElem?_replicate] at hc
      rw [Array.getElem?_append_right (by omega), Array.getElem?_replicate] at hx
      split at hc
      · split at hx
        · simp at hc hx; subst hc; subst hx; exact .lit _
        · cases hx
      · cases hc
  refine Code.wp_mono (fun e a' w' hh => ?_) ((ev_ok hC c h).go w g _ hs)
  obtain ⟨ae, f', m', g', rfl, hq, hs', ht, hl⟩ := hh
  cases ae with
  | normal =>
    obtain ⟨x, g2, e1, e2, e3, e4⟩ := endR_ok (Nat.le_add_right _ _) hq hs'
    exact ⟨hs'.df, x, e1, x, g2, rfl, e2, e3, ht, hl.trans e4⟩
  | ret =>
    obtain ⟨x, g2, e1, e2, e3, e4⟩ := endR_ok (Nat.le_add_right _ _) hq hs'
    exact ⟨hs'.df, x, e1, x, g2, rfl, e2, e3, ht, hl.trans e4⟩
  | exit i => exact hq.elim

/-- **A CONTRACT OF A FUNCTION WHOSE RESULT HOLDS VARIABLES.** -/
theorem Ev1.of_finR {P : Program} {C : Cfg2} (hC : Cfg2Ok P C) {fid : FuncId} {fn : Func} {c : Code} (hf : P.funcs[fid]? = some fn) (hb : fn.body = some c) (l : List (Nat × Nat)) {nt : Nat} {args : List AV} {m0 m1 : Mem} {v : AV}
    (hn : fn.ntmps - args.length = nt) (h : ev P C L c (endR P L l fn.results.toList v m1) (args ++ undefs nt) m0) : Ev1 P fid args m0 v m1 :=
  fun _ _ _ hm ha => calls_of_evR hC hf hb hn h hm ha

end Eng

/- The loop rule with what comes behind the loop kept apart: a round's walk sees a name in its place. -/
set_option linter.unusedSimpArgs false
set_option linter.unusedVariables false
namespace Eng
open Go Go.RowKit

theorem Runs.loopQ {P : Program} {C : Cfg2} (hC : Cfg2Ok P C) {base : Nat} {c : Code} {Q : Post} {f : List AV} {m : Mem} {σ : Type} (is : List Nat) (S : σ → List AV) (M : σ → Mem) (inv : σ → Prop) (rank : σ → Nat) (s0 : σ)
    (hi : inv s0) (h0 : atK base is f m (S s0) (M s0))
    (round : ∀ s, inv s → ∀ N : Post, (∀ f' m', (match sameL f' (tops f) with
        | true => Next inv (fun s' => rank s' < rank s) (fun s' => atK base is f' m' (S s') (M s'))
        | false => False) → N .normal f' m') → (∀ i f' m', Q (.exit i) f' m' → N (.exit i) f' m') → (∀ f' m', Q .ret f' m' → N .ret f' m') →
      topsK f fun f0 => setsK f0 is (S s) fun f1 => ev P C base c N f1 (M s)) : Runs P base (.loop c) Q f m := by
  refine Runs.loopS hC is S M inv rank s0 hi h0 fun s hs => ?_
  have h := round s hs (fun e f' m' => match e with
      | .normal => match sameL f' (tops f) with
        | true => Next inv (fun s' => rank s' < rank s) (fun s' => atK base is f' m' (S s') (M s'))
        | false => False
      | e => Q e f' m') (fun f' m' h => h) (fun i f' m' h => h) (fun f' m' h => h)
  rw [topsK_eq] at h ⊢
  exact h

/-- What stands behind the first part of a code is kept apart: its walk sees a name in its place. -/
theorem evCut {P : Program} {C : Cfg2} {base : Nat} {x y : Code} {Q : Post} {f : List AV} {m : Mem}
    (h : ∀ N : Post, (∀ f' m', ev P C base y Q f' m' → N .normal f' m') → (∀ i f' m', Q (.exit i) f' m' → N (.exit i) f' m') → (∀ f' m', Q .ret f' m' → N .ret f' m') → ev P C base x N f m) : ev P C base (.seq x y) Q f m := by
  show ev P C base x _ f m
  exact h _ (fun f' m' h => h) (fun _ _ _ h => h) (fun _ _ h => h)

/-! A call that only reads own memory writes nothing: two of them may stand in any order. -/
def keyR (R : List (Nat × Blk)) (j : Nat) : Prop := ∃ p ∈ R, p.1 = j
theorem putsM_dlR {R : List (Nat × Blk)} : ∀ {m : Nat → Option Blk} {j : Nat}, putsM (R.map fun p => (p.1, none)) m j = m j ∨ keyR R j := by
  induction R with
  | nil => intro m j; exact .inl rfl
  | cons p r ih =>
    intro m j
    rcases ih (m := put m p.1 none) (j := j) with h | ⟨q, h1, h2⟩
    · by_cases hk : p.1 = j
      · exact .inr ⟨p, by simp, hk⟩
      · exact .inl (by show putsM (r.map fun p => (p.1, none)) (put m p.1 none) j = m j; rw [h, put_ne _ _ hk])
    · exact .inr ⟨q, by simp [h1], h2⟩
theorem putsM_ptR {R : List (Nat × Blk)} : ∀ {m m' : Nat → Option Blk}, (∀ p ∈ R, m p.1 = some p.2) → (∀ j, m' j = m j ∨ keyR R j) → putsM (R.map fun p => (p.1, some p.2)) m' = m := by
  induction R with
  | nil =>
    intro m m' _ h
    funext j
    rcases h j with h | ⟨p, h1, _⟩
    · exact h
    · cases h1
  | cons p r ih =>
    intro m m' hr h
    refine ih (fun q hq => hr q (by simp [hq])) fun j => ?_
    by_cases hk : p.1 = j
    · exact .inl (by rw [← hk, put_self]; exact (hr p (by simp)).symm)
    · rw [put_ne _ _ hk]
      rcases h j with h | ⟨q, h1, h2⟩
      · exact .inl h
      · rcases List.mem_cons.1 h1 with rfl | h1
        · exact absurd h2 hk
        · exact .inr ⟨q, h1, h2⟩
theorem dlR_map (ρ : Nat → Nat) : ∀ m : Mem, dlR ρ m = (rdR ρ m).map fun p => (p.1, none)
  | [] => rfl
  | (k, b) :: r => by simp only [dlR, rdR, List.map_cons, dlR_map ρ r]
theorem ptR_map (ρ : Nat → Nat) : ∀ m : Mem, ptR ρ m = (rdR ρ m).map fun p => (p.1, some p.2)
  | [] => rfl
  | (k, b) :: r => by simp only [ptR, rdR, List.map_cons, ptR_map ρ r]
theorem Ev1.cactR {P : Program} {fid : FuncId} {args : List AV} {m0 : Mem} {v : AV} (h : Ev1 P fid args m0 v m0) (base : Nat) (l : List (Nat × Nat)) (hok : liftB base l args m0 v m0 = true) (hf : frR (asc l) m0 m0 = []) :
    CAct P base fid (renL (asc l) args) ⟨renV (asc l) v, rdR (asc l) m0, [], []⟩ := by
  have hc := h.cact base l hok
  rw [hf] at hc
  refine ⟨fun m hrd w g vs hm hr => ?_⟩
  have hme : Act1.me ⟨renV (asc l) v, rdR (asc l) m0, catU (dlR (asc l) m0) (ptR (asc l) m0), []⟩ m = m := by
    show putsM (catU (dlR (asc l) m0) (ptR (asc l) m0)) m = m
    rw [catU_eq, putsM_app, dlR_map, ptR_map]
    exact putsM_ptR hrd fun j => putsM_dlR
  have := hc.go m hrd w g vs hm hr
  rw [hme] at this
  exact this
theorem callRd {P : Program} {base : Nat} {fid : FuncId} {args args' : List AV} {m0 : Mem} {v : AV} (h : Ev1 P fid args m0 v m0) (l : List (Nat × Nat)) {f : List AV} {m : Mem} {d : Option Nat} {K : List AV → Mem → Prop} {J : Prop}
    (hargs : renL (asc l) args = args') (hrd : rdK (asc l) m m0) (hok : liftB base l args m0 v m0 = true) (hf : frR (asc l) m0 m0 = []) (hK : applyK ⟨renV (asc l) v, rdR (asc l) m0, [], []⟩ f m d K) :
    (∃ c : Act1, (∀ p ∈ c.rd, mget m p.1 = some p.2) ∧ CAct P base fid args' c ∧ applyK c f m d K) ∨ J := by
  exact .inl ⟨_, rdK_ok hrd, by rw [← hargs]; exact h.cactR base l hok hf, hK⟩
theorem callRdD {P : Program} {base : Nat} {fid : FuncId} {args args' : List AV} {m0 : Mem} {v : AV} (h : Ev1 P fid args m0 v m0) (l : List (Nat × Nat)) {m : Mem} {K : Act1 → Prop}
    (hargs : renL (asc l) args = args') (hrd : rdK (asc l) m m0) (hok : liftB base l args m0 v m0 = true) (hf : frR (asc l) m0 m0 = []) (hK : K ⟨renV (asc l) v, rdR (asc l) m0, [], []⟩) :
    ∃ c : Act1, (∀ p ∈ c.rd, mget m p.1 = some p.2) ∧ CAct P base fid args' c ∧ K c := by
  exact ⟨_, rdK_ok hrd, by rw [← hargs]; exact h.cactR base l hok hf, hK⟩
end Eng

/- view.sight; world.Player. -/
set_option linter.unusedSimpArgs false
set_option linter.unusedVariables false
namespace Go.Proofs.Ytelgmmcnopjolaa
open Go Go.RowKit Eng

def nearB (a b r : Int) : Bool := decide (max (a - b) (b - a) ≤ r)
set_option maxRecDepth 100000 in
set_option maxHeartbeats 4000000 in
theorem sight1_ev (a b r : Int) (ha : -1000 ≤ a ∧ a ≤ 1000) (hb : -1000 ≤ b ∧ b ≤ 1000) : Ev1 Try.prog 102 [i64 a, i64 b, .ptr 0 0] [(0, .box [i64 r])] (bol (nearB a b r)) [(0, .box [i64 r])] := by
  refine Ev1.of_fin cfg_ok Try.func102 rfl (nt := 12) rfl rfl rfl ?_
  conv => whnf
  repeat' (first
    | exact trivial
    | ((first | refine i64L ?_ | refine u64L ?_ | refine u8L ?_); (conv => whnf))
    | ((refine ⟨fun hb => ?_, fun hb => ?_⟩) <;> (try simp only [nrm] at hb) <;> (first | (exfalso; omega) | contradiction | exact (tfF hb (by assumption)).elim | exact (ftF hb (by assumption)).elim | (conv => whnf)))
    | ((first | refine Draws.of cfg_ok (by kernel_rfl) ?_ | refine ⟨(by kernel_rfl : confB _ _ _ _ _ = true), ?_⟩ | refine bd1 ?_ | refine bd2 ?_ | refine bdR ?_ | refine bdL ?_ | refine ⟨rfl, ?_⟩ | refine ⟨congrArg (Value.int _) (by omega), ?_⟩); (conv => whnf))
    | (refine And.intro ?_ ?_; rotate_left; (conv => whnf); rotate_right))
  all_goals first | rfl | trace_state

def seesB (p : Player) (r x y : Int) : Bool := nearB (p.x / 8) x r && nearB (p.y / 8) y r
set_option maxRecDepth 100000 in
set_option maxHeartbeats 4000000 in
theorem sight2_ev (p : Player) (r x y : Int) (hx : 0 ≤ p.x ∧ p.x ≤ 1000) (hy : 0 ≤ p.y ∧ p.y ≤ 1000) (h1 : -1000 ≤ x ∧ x ≤ 1000) (h2 : -1000 ≤ y ∧ y ≤ 1000) : Ev1 Try.prog 103 [i64 x, i64 y, .ptr 0 0, .ptr 2 0] [(0, .box [.clo (.func 102) [] [.ptr 4 0]]), (2, .box (playerC p)), (4, .box [i64 r])] (bol (seesB p r x y)) [(0, .box [.clo (.func 102) [] [.ptr 4 0]]), (2, .box (playerC p)), (4, .box [i64 r])] := by
  have s1 := sight1_ev (p.x / 8) x r (by omega) h1
  have s2 := sight1_ev (p.y / 8) y r (by omega) h2
  unfold seesB
  cases e1 : nearB (p.x / 8) x r
  all_goals
    cases e2 : nearB (p.y / 8) y r
    all_goals
      rw [e1] at s1
      rw [e2] at s2
      refine Ev1.of_fin cfg_ok Try.func103 rfl (nt := 17) rfl rfl rfl ?_
      conv => whnf
      repeat' (first
        | exact trivial
        | ((first | refine i64L ?_ | refine u64L ?_ | refine u8L ?_); (conv => whnf))
        | ((refine ⟨fun hb => ?_, fun hb => ?_⟩) <;> (try simp only [nrm] at hb) <;> (first | (exfalso; omega) | contradiction | exact (tfF hb (by assumption)).elim | exact (ftF hb (by assumption)).elim | (conv => whnf)))
        | ((first | (refine callEv (s1) [(0, 4)] rfl ?_ ?_ ?_) | (refine callEvD (s1) [(0, 4)] rfl ?_ ?_ ?_)); rotate_left; rotate_left; (conv => whnf); rotate_left; (repeat' (first | exact trivial | (refine ⟨rfl, ?_⟩))); kernel_rfl)
        | ((first | (refine callEv (s2) [(0, 4)] rfl ?_ ?_ ?_) | (refine callEvD (s2) [(0, 4)] rfl ?_ ?_ ?_)); rotate_left; rotate_left; (conv => whnf); rotate_left; (repeat' (first | exact trivial | (refine ⟨rfl, ?_⟩))); kernel_rfl)
        | ((first | refine Draws.of cfg_ok (by kernel_rfl) ?_ | refine ⟨(by kernel_rfl : confB _ _ _ _ _ = true), ?_⟩ | refine bd1 ?_ | refine bd2 ?_ | refine bdR ?_ | refine bdL ?_ | refine ⟨rfl, ?_⟩ | refine ⟨congrArg (Value.int _) (by omega), ?_⟩); (conv => whnf))
        | (refine And.intro ?_ ?_; rotate_left; (conv => whnf); rotate_right))
  all_goals first | rfl | trace_state

abbrev sightF (a b : Nat) : AV := .clo (.func 103) [] [.ptr a 0, .ptr b 0]
abbrev sightM (p : Player) (r : Int) (a b c : Nat) : Mem := [(a, .box [.clo (.func 102) [] [.ptr c 0]]), (b, .box (playerC p)), (c, .box [i64 r])]
set_option maxRecDepth 100000 in
set_option maxHeartbeats 4000000 in
theorem sight_ev (p : Player) (r : Int) : Ev1 Try.prog 62 [playerV p, i64 r] [] (sightF 390001 390003) (sightM p r 390001 390003 390005) := by
  refine Ev1.of_finR cfg_ok Try.func62 rfl [(200010, 390001), (200004, 390003), (200006, 390005)] (nt := 6) rfl ?_
  conv => whnf
  repeat' (first
    | exact trivial
    | ((first | refine i64L ?_ | refine u64L ?_ | refine u8L ?_); (conv => whnf))
    | ((refine ⟨fun hb => ?_, fun hb => ?_⟩) <;> (try simp only [nrm] at hb) <;> (first | (exfalso; omega) | contradiction | exact (tfF hb (by assumption)).elim | exact (ftF hb (by assumption)).elim | (conv => whnf)))
    | ((first | refine Draws.of cfg_ok (by kernel_rfl) ?_ | refine ⟨(by kernel_rfl : confB _ _ _ _ _ = true), ?_⟩ | refine bd1 ?_ | refine bd2 ?_ | refine bdR ?_ | refine bdL ?_ | refine ⟨rfl, ?_⟩ | refine ⟨congrArg (Value.int _) (by omega), ?_⟩); (conv => whnf))
    | (refine And.intro ?_ ?_; rotate_left; (conv => whnf); rotate_right))
  all_goals first | rfl | trace_state

def zeroP : Player := ⟨0, 0, 0, [], 0, [], false⟩
def playerW (w : Wld) (id : Int) : Player × Bool :=
  if rightW w = false then (zeroP, false) else match getK pid w.players id with
    | some p => (p, true)
    | none => (zeroP, false)
set_option maxRecDepth 100000 in
set_option maxHeartbeats 4000000 in
theorem wplayer_api (w : Wld) (id : Int) (hw : OkW w) : Api Try.prog 33 [wldV w, i64 id] (.tup [playerV (playerW w id).1, bol (playerW w id).2]) := by
  have hnp := hw.np
  have hrt := rightW_api w hw
  have hsk := seek_api w id (by omega)
  cases hR : rightW w with
  | false =>
    rw [hR] at hrt
    have hs : playerW w id = (zeroP, false) := by unfold playerW; rw [if_pos hR]
    rw [hs]
    refine Api.of_fin cfg_ok Try.func33 rfl (nt := 25) rfl rfl ?_
    conv => whnf
    repeat' (first
      | exact trivial
      | ((first | refine i64L ?_ | refine u64L ?_ | refine u8L ?_); (conv => whnf))
      | ((refine ⟨fun hb => ?_, fun hb => ?_⟩) <;> (try simp only [nrm] at hb) <;> (first | (exfalso; omega) | contradiction | exact (tfF hb (by assumption)).elim | exact (ftF hb (by assumption)).elim | (conv => whnf)))
      | ((first | (refine callApi (hrt) rfl rfl ?_) | (refine callApiD (hrt) rfl rfl ?_) | (refine callApi (hsk) rfl rfl ?_) | (refine callApiD (hsk) rfl rfl ?_) | refine Draws.of cfg_ok (by kernel_rfl) ?_ | refine ⟨(by kernel_rfl : confB _ _ _ _ _ = true), ?_⟩ | refine bd1 ?_ | refine bd2 ?_ | refine bdR ?_ | refine bdL ?_ | refine ⟨rfl, ?_⟩ | refine ⟨congrArg (Value.int _) (by omega), ?_⟩); (conv => whnf))
      | (refine And.intro ?_ ?_; rotate_left; (conv => whnf); rotate_right))
    all_goals first | rfl | trace_state
  | true =>
    rw [hR] at hrt
    obtain ⟨hri, _, _, _⟩ := rightW_players hR
    obtain ⟨e1, e2⟩ := bsP_rises hri id
    rw [e1, e2] at hsk
    cases hg : getK pid w.players id with
    | none =>
      rw [hg] at hsk
      have hs : playerW w id = (zeroP, false) := by unfold playerW; rw [if_neg (by rw [hR]; simp), hg]
      rw [hs]
      refine Api.of_fin cfg_ok Try.func33 rfl (nt := 25) rfl rfl ?_
      conv => whnf
      repeat' (first
        | exact trivial
        | ((first | refine i64L ?_ | refine u64L ?_ | refine u8L ?_); (conv => whnf))
        | ((refine ⟨fun hb => ?_, fun hb => ?_⟩) <;> (try simp only [nrm] at hb) <;> (first | (exfalso; omega) | contradiction | exact (tfF hb (by assumption)).elim | exact (ftF hb (by assumption)).elim | (conv => whnf)))
        | ((first | (refine callApi (hrt) rfl rfl ?_) | (refine callApiD (hrt) rfl rfl ?_) | (refine callApi (hsk) rfl rfl ?_) | (refine callApiD (hsk) rfl rfl ?_) | refine Draws.of cfg_ok (by kernel_rfl) ?_ | refine ⟨(by kernel_rfl : confB _ _ _ _ _ = true), ?_⟩ | refine bd1 ?_ | refine bd2 ?_ | refine bdR ?_ | refine bdL ?_ | refine ⟨rfl, ?_⟩ | refine ⟨congrArg (Value.int _) (by omega), ?_⟩); (conv => whnf))
        | (refine And.intro ?_ ?_; rotate_left; (conv => whnf); rotate_right))
      all_goals first | rfl | trace_state
    | some p =>
      rw [hg] at hsk
      have hs : playerW w id = (p, true) := by unfold playerW; rw [if_neg (by rw [hR]; simp), hg]
      rw [hs]
      obtain ⟨h1, h2⟩ := lbK_lt hri hg
      have h3 : elt .player w.players (lbK pid id w.players) = p := by
        have := elt_get .player w.players _ h1
        rw [h2] at this
        exact (Option.some.inj this).symm
      have hal := alone_api p (hw.players p (getK_mem hg).1)
      generalize lbK pid id w.players = at_ at *
      subst h3
      refine Api.of_fin cfg_ok Try.func33 rfl (nt := 25) rfl rfl ?_
      conv => whnf
      repeat' (first
        | exact trivial
        | ((first | refine i64L ?_ | refine u64L ?_ | refine u8L ?_); (conv => whnf))
        | ((refine ⟨fun hb => ?_, fun hb => ?_⟩) <;> (try simp only [nrm] at hb) <;> (first | (exfalso; omega) | contradiction | exact (tfF hb (by assumption)).elim | exact (ftF hb (by assumption)).elim | (conv => whnf)))
        | ((first | (refine callApi (hrt) rfl rfl ?_) | (refine callApiD (hrt) rfl rfl ?_) | (refine callApi (hsk) rfl rfl ?_) | (refine callApiD (hsk) rfl rfl ?_) | (refine callApi (hal) rfl rfl ?_) | (refine callApiD (hal) rfl rfl ?_) | refine Draws.of cfg_ok (by kernel_rfl) ?_ | refine ⟨(by kernel_rfl : confB _ _ _ _ _ = true), ?_⟩ | refine bd1 ?_ | refine bd2 ?_ | refine bdR ?_ | refine bdL ?_ | refine ⟨rfl, ?_⟩ | refine ⟨congrArg (Value.int _) (by omega), ?_⟩); (conv => whnf))
        | (refine And.intro ?_ ?_; rotate_left; (conv => whnf); rotate_right))
      all_goals first | omega | rfl | trace_state

end Go.Proofs.Ytelgmmcnopjolaa

/- view.Of, view.Sees. -/
set_option linter.unusedSimpArgs false
set_option linter.unusedVariables false
namespace Go.Proofs.Ytelgmmcnopjolaa
open Go Go.RowKit Eng

structure Viw where
  tick : Int
  me : Player
  chunks : List Chunk
  others : List Seen
abbrev viewC (v : Viw) : List AV := [i64 v.tick, i64 v.me.id, i64 v.me.x, i64 v.me.y, .vec .slot v.me.bag, i64 v.me.wth, .vec .slot v.me.offer, bol v.me.agrees, .vec .chunk v.chunks, .vec .seen v.others]
abbrev viewV (v : Viw) : AV := .agg [i64 v.tick, i64 v.me.id, i64 v.me.x, i64 v.me.y, .vec .slot v.me.bag, i64 v.me.wth, .vec .slot v.me.offer, bol v.me.agrees, .vec .chunk v.chunks, .vec .seen v.others]
def zeroV : Viw := ⟨0, zeroP, [], []⟩
abbrev viewO (t : Int) (p : Player) (a n : Nat) (b m : Nat) : List AV := [i64 t, i64 p.id, i64 p.x, i64 p.y, .vec .slot p.bag, i64 p.wth, .vec .slot p.offer, bol p.agrees, .own .chunk a 0 n none, .own .seen b 0 m none]

def rowV (w : Wld) (p : Player) (r : Int) (y : Nat) (k : Nat) : List Chunk := ((List.range k).filter fun x => seesB p r (x : Nat) (y : Nat)).map fun x => (chunkW w (x : Nat) (y : Nat)).1
theorem rowV_succ (w : Wld) (p : Player) (r : Int) (y k : Nat) : rowV w p r y (k + 1) = rowV w p r y k ++ (if seesB p r (k : Nat) (y : Nat) = true then [(chunkW w (k : Nat) (y : Nat)).1] else []) := by
  unfold rowV
  rw [List.range_succ, List.filter_append, List.map_append]
  congr 1
  by_cases h : seesB p r (k : Nat) (y : Nat) = true <;> simp [List.filter, h]
theorem rowV_len (w : Wld) (p : Player) (r : Int) (y k : Nat) : (rowV w p r y k).length ≤ k := by
  unfold rowV
  rw [List.length_map]
  exact Nat.le_trans (List.length_filter_le _ _) (by simp)
def rowsV (w : Wld) (p : Player) (r : Int) (s : Nat) : Nat → List Chunk
  | 0 => []
  | y + 1 => rowsV w p r s y ++ rowV w p r y s
theorem rowsV_len (w : Wld) (p : Player) (r : Int) (s y : Nat) : (rowsV w p r s y).length ≤ y * s := by
  induction y with
  | zero => simp [rowsV]
  | succ y ih => have := rowV_len w p r y s; rw [rowsV, List.length_append, Nat.succ_mul]; omega
theorem rowsV_bd (w : Wld) (p : Player) (r : Int) {s y k : Nat} (hs : s ≤ 16) (hy : y ≤ s) (hk : k ≤ s) : (rowsV w p r s y ++ rowV w p r y k).length ≤ 272 := by
  have h1 := rowsV_len w p r s y
  have h2 := rowV_len w p r y k
  have h3 : y * s ≤ 16 * 16 := Nat.mul_le_mul (by omega) hs
  rw [List.length_append]; omega
def accV (w : Wld) (p : Player) (r : Int) (S y x : Nat) : List Chunk := rowsV w p r S y ++ rowV w p r y x
theorem accV_zero (w : Wld) (p : Player) (r : Int) (S y : Nat) : accV w p r S y 0 = rowsV w p r S y := by unfold accV rowV; simp
theorem accV_end (w : Wld) (p : Player) (r : Int) (S y : Nat) : accV w p r S y S = rowsV w p r S (y + 1) := rfl
theorem accV_yes {w : Wld} {p : Player} {r : Int} {S y x : Nat} (h : seesB p r (x : Nat) (y : Nat) = true) : accV w p r S y (x + 1) = accV w p r S y x ++ [(chunkW w (x : Nat) (y : Nat)).1] := by
  unfold accV; rw [rowV_succ, if_pos h, List.append_assoc]
theorem accV_no {w : Wld} {p : Player} {r : Int} {S y x : Nat} (h : seesB p r (x : Nat) (y : Nat) = false) : accV w p r S y (x + 1) = accV w p r S y x := by
  unfold accV; rw [rowV_succ, if_neg (by rw [h]; simp), List.append_nil]
def othB (p : Player) (r id : Int) (q : Player) : Bool := !(decide (q.id = id)) && seesB p r (q.x / 8) (q.y / 8)
def seenP (q : Player) : Seen := ⟨q.id, q.x, q.y⟩
def othV (l : List Player) (p : Player) (r id : Int) (k : Nat) : List Seen := ((l.take k).filter (othB p r id)).map seenP
theorem othV_succ {l : List Player} {p : Player} {r id : Int} {k : Nat} (h : k < l.length) : othV l p r id (k + 1) = othV l p r id k ++ (if othB p r id (elt .player l k) = true then [seenP (elt .player l k)] else []) := by
  unfold othV
  rw [List.take_add_one, elt_get .player l k h, Option.toList_some, List.filter_append, List.map_append]
  congr 1
  by_cases h : othB p r id (elt .player l k) = true <;> simp [List.filter, h]
theorem othV_len (l : List Player) (p : Player) (r id : Int) (k : Nat) : (othV l p r id k).length ≤ l.length := by
  unfold othV
  rw [List.length_map]
  exact Nat.le_trans (List.length_filter_le _ _) (List.length_take_le' _ _)
def ofW (w : Wld) (id r : Int) : Viw × Int :=
  if r < 0 ∨ 3 < r then (zeroV, 2)
  else if rightW w = false then (zeroV, 113)
  else if (playerW w id).2 = false then (zeroV, 110)
  else (⟨w.tick, (playerW w id).1, rowsV w (playerW w id).1 r w.size.toNat w.size.toNat, othV w.players (playerW w id).1 r id w.players.length⟩, 0)

theorem within_bd {w : Wld} (hR : RW w) {p : Player} (hp : p ∈ w.players) : 0 ≤ p.x ∧ p.x < 128 ∧ 0 ≤ p.y ∧ p.y < 128 := by
  have h1 := (within_iff hR).1 (hR.players p hp).2
  have h2 := hR.size
  omega

set_option maxRecDepth 100000 in
set_option maxHeartbeats 4000000 in
theorem viewOf_api (w : Wld) (id r : Int) (hw : OkW w) : Api Try.prog 22 [wldV w, i64 id, i64 r] (.tup [viewV (ofW w id r).1, i64 (ofW w id r).2]) := by
  have hrt := rightW_api w hw
  have hpl := wplayer_api w id hw
  have hnp := hw.np
  by_cases hr : r < 0 ∨ 3 < r
  · have hs : ofW w id r = (zeroV, 2) := by unfold ofW; rw [if_pos hr]
    rw [hs]
    refine Api.of_fin cfg_ok Try.func22 rfl (nt := 108) rfl rfl ?_
    conv => whnf
    repeat' (first
      | exact trivial
      | ((first | refine i64L ?_ | refine u64L ?_ | refine u8L ?_); (conv => whnf))
      | ((refine ⟨fun hb => ?_, fun hb => ?_⟩) <;> (try simp only [nrm] at hb) <;> (first | (exfalso; omega) | contradiction | exact (tfF hb (by assumption)).elim | exact (ftF hb (by assumption)).elim | (conv => whnf)))
      | ((first | (refine callApi (hrt) rfl rfl ?_) | (refine callApiD (hrt) rfl rfl ?_) | (refine callApi (hpl) rfl rfl ?_) | (refine callApiD (hpl) rfl rfl ?_) | refine Draws.of cfg_ok (by kernel_rfl) ?_ | refine ⟨(by kernel_rfl : confB _ _ _ _ _ = true), ?_⟩ | refine bd1 ?_ | refine bd2 ?_ | refine bdR ?_ | refine bdL ?_ | refine ⟨rfl, ?_⟩ | refine ⟨congrArg (Value.int _) (by omega), ?_⟩); (conv => whnf))
      | (refine And.intro ?_ ?_; rotate_left; (conv => whnf); rotate_right))
    all_goals first | omega | rfl | trace_state
  · cases hR : rightW w with
    | false =>
      rw [hR] at hrt
      have hs : ofW w id r = (zeroV, 113) := by unfold ofW; rw [if_neg hr, if_pos hR]
      rw [hs]
      refine Api.of_fin cfg_ok Try.func22 rfl (nt := 108) rfl rfl ?_
      conv => whnf
      repeat' (first
        | exact trivial
        | ((first | refine i64L ?_ | refine u64L ?_ | refine u8L ?_); (conv => whnf))
        | ((refine ⟨fun hb => ?_, fun hb => ?_⟩) <;> (try simp only [nrm] at hb) <;> (first | (exfalso; omega) | contradiction | exact (tfF hb (by assumption)).elim | exact (ftF hb (by assumption)).elim | (conv => whnf)))
        | ((first | (refine callApi (hrt) rfl rfl ?_) | (refine callApiD (hrt) rfl rfl ?_) | (refine callApi (hpl) rfl rfl ?_) | (refine callApiD (hpl) rfl rfl ?_) | refine Draws.of cfg_ok (by kernel_rfl) ?_ | refine ⟨(by kernel_rfl : confB _ _ _ _ _ = true), ?_⟩ | refine bd1 ?_ | refine bd2 ?_ | refine bdR ?_ | refine bdL ?_ | refine ⟨rfl, ?_⟩ | refine ⟨congrArg (Value.int _) (by omega), ?_⟩); (conv => whnf))
        | (refine And.intro ?_ ?_; rotate_left; (conv => whnf); rotate_right))
      all_goals first | omega | rfl | trace_state
    | true =>
      rw [hR] at hrt
      have hRW := rightW_iff.1 hR
      have hsz := hRW.size
      cases hP : (playerW w id).2 with
      | false =>
        rw [hP] at hpl
        have hs : ofW w id r = (zeroV, 110) := by unfold ofW; rw [if_neg hr, if_neg (by rw [hR]; simp), if_pos hP]
        rw [hs]
        refine Api.of_fin cfg_ok Try.func22 rfl (nt := 108) rfl rfl ?_
        conv => whnf
        repeat' (first
          | exact trivial
          | ((first | refine i64L ?_ | refine u64L ?_ | refine u8L ?_); (conv => whnf))
          | ((refine ⟨fun hb => ?_, fun hb => ?_⟩) <;> (try simp only [nrm] at hb) <;> (first | (exfalso; omega) | contradiction | exact (tfF hb (by assumption)).elim | exact (ftF hb (by assumption)).elim | (conv => whnf)))
          | ((first | (refine callApi (hrt) rfl rfl ?_) | (refine callApiD (hrt) rfl rfl ?_) | (refine callApi (hpl) rfl rfl ?_) | (refine callApiD (hpl) rfl rfl ?_) | refine Draws.of cfg_ok (by kernel_rfl) ?_ | refine ⟨(by kernel_rfl : confB _ _ _ _ _ = true), ?_⟩ | refine bd1 ?_ | refine bd2 ?_ | refine bdR ?_ | refine bdL ?_ | refine ⟨rfl, ?_⟩ | refine ⟨congrArg (Value.int _) (by omega), ?_⟩); (conv => whnf))
          | (refine And.intro ?_ ?_; rotate_left; (conv => whnf); rotate_right))
        all_goals first | omega | rfl | trace_state
      | true =>
        rw [hP] at hpl
        have hs : ofW w id r = (⟨w.tick, (playerW w id).1, rowsV w (playerW w id).1 r w.size.toNat w.size.toNat, othV w.players (playerW w id).1 r id w.players.length⟩, 0) := by unfold ofW; rw [if_neg hr, if_neg (by rw [hR]; simp), if_neg (by rw [hP]; simp)]
        rw [hs]
        have hmem : (playerW w id).1 ∈ w.players := by
          unfold playerW at hP ⊢
          rw [if_neg (by rw [hR]; simp)] at hP ⊢
          split
          · rename_i p hg; exact (getK_mem hg).1
          · rename_i hg; rw [hg] at hP; simp at hP
        have hpb := within_bd hRW hmem
        generalize (playerW w id).1 = p at *
        obtain ⟨S, hS⟩ : ∃ S : Nat, w.size = S := ⟨w.size.toNat, by omega⟩
        rw [hS, Int.toNat_natCast]
        have hsi := sight_ev p r
        have hch : ∃ G : Nat → Nat → Chunk, (∀ x y : Nat, G x y = (chunkW w (x : Nat) (y : Nat)).1) ∧ ∀ x y : Nat, x < S → y < S → Api Try.prog 20 [wldV w, i64 (x : Nat), i64 (y : Nat)] (.tup [chunkV (G x y), bol true]) :=
          ⟨fun x y => (chunkW w (x : Nat) (y : Nat)).1, fun x y => rfl, fun x y hx hy => by
            have h := wchunk_api w (x : Nat) (y : Nat) hw
            rw [show (chunkW w (x : Nat) (y : Nat)).2 = true by rw [(chunkW_in hRW (x := x) (y := y) (by omega) (by omega)).1]] at h
            exact h⟩
        obtain ⟨G, hG, hch⟩ := hch
        have hF : ∃ F : Nat → Nat → List Chunk, (∀ y, F y 0 = rowsV w p r S y) ∧ (∀ y, F y S = rowsV w p r S (y + 1)) ∧ (∀ y x : Nat, seesB p r (x : Nat) (y : Nat) = true → F y (x + 1) = F y x ++ [G x y]) ∧ (∀ y x : Nat, seesB p r (x : Nat) (y : Nat) = false → F y (x + 1) = F y x) ∧ (∀ y x : Nat, y ≤ S → x ≤ S → (F y x).length ≤ 272) :=
          ⟨accV w p r S, fun y => accV_zero w p r S y, fun y => accV_end w p r S y, fun y x h => by rw [accV_yes h, hG], fun y x h => accV_no h, fun y x hy hx => rowsV_bd w p r (s := S) (y := y) (k := x) (by omega) (by omega) hx⟩
        obtain ⟨F, f0, f1, f2, f3, f4⟩ := hF
        have hRl : ∀ y, (rowsV w p r S y).length ≤ y * S := rowsV_len w p r S
        have hO : ∃ O : Nat → List Seen, O 0 = [] ∧ (∀ k, k < w.players.length → O (k + 1) = O k ++ (if othB p r id (elt .player w.players k) = true then [seenP (elt .player w.players k)] else [])) ∧ (∀ k, (O k).length ≤ w.players.length) ∧ O w.players.length = othV w.players p r id w.players.length :=
          ⟨othV w.players p r id, rfl, fun k hk => othV_succ hk, fun k => othV_len w.players p r id k, rfl⟩
        obtain ⟨O, o0, o1, o2, o3⟩ := hO
        rw [← o3]
        have hR0 : rowsV w p r S 0 = [] := rfl
        generalize rowsV w p r S = R at *
        clear o3 hG
        refine Api.of_fin cfg_ok Try.func22 rfl (nt := 108) rfl rfl ?_
        conv => whnf
        repeat' (first
          | exact trivial
          | ((first | refine i64L ?_ | refine u64L ?_ | refine u8L ?_); (conv => whnf))
          | ((refine ⟨fun hb => ?_, fun hb => ?_⟩) <;> (try simp only [nrm] at hb) <;> (first | (exfalso; omega) | contradiction | exact (tfF hb (by assumption)).elim | exact (ftF hb (by assumption)).elim | (conv => whnf)))
          | ((first | (refine callEv (hsi) [(390001, 150101), (390003, 150103), (390005, 150105)] rfl ?_ ?_ ?_) | (refine callEvD (hsi) [(390001, 150101), (390003, 150103), (390005, 150105)] rfl ?_ ?_ ?_)); rotate_left; rotate_left; (conv => whnf); rotate_left; (repeat' (first | exact trivial | (refine ⟨rfl, ?_⟩))); kernel_rfl)
          | ((first | (refine callApi (hrt) rfl rfl ?_) | (refine callApiD (hrt) rfl rfl ?_) | (refine callApi (hpl) rfl rfl ?_) | (refine callApiD (hpl) rfl rfl ?_) | refine Draws.of cfg_ok (by kernel_rfl) ?_ | refine ⟨(by kernel_rfl : confB _ _ _ _ _ = true), ?_⟩ | refine bd1 ?_ | refine bd2 ?_ | refine bdR ?_ | refine bdL ?_ | refine ⟨rfl, ?_⟩ | refine ⟨congrArg (Value.int _) (by omega), ?_⟩); (conv => whnf))
          | (refine And.intro ?_ ?_; rotate_left; (conv => whnf); rotate_right))
        all_goals try omega
        refine Runs.loopQ cfg_ok (σ := Nat) [1, 3, 6, 10, 11, 48, 49] (fun y => [i64 id, .ptr 6 0, .ptr 12 0, .ptr 20 0, sightF 150101 150103, i64 S, i64 y])
          (fun y => (6, .box (wldC w)) :: (12, .box (viewC zeroV)) :: (20, .box (viewO w.tick p 150001 (R y).length 150003 0)) :: (150001, .row .chunk (R y)) :: (150003, .row .seen []) :: sightM p r 150101 150103 150105)
          (fun y => y ≤ S) (fun y => S - y) 0 (by omega) ?_ ?_
        · conv => whnf
          repeat' (first
            | exact trivial
            | ((first | refine i64L ?_ | refine u64L ?_ | refine u8L ?_); (conv => whnf))
            | ((refine ⟨fun hb => ?_, fun hb => ?_⟩) <;> (try simp only [nrm] at hb) <;> (first | (exfalso; omega) | contradiction | exact (tfF hb (by assumption)).elim | exact (ftF hb (by assumption)).elim | (conv => whnf)))
            | ((first | refine Draws.of cfg_ok (by kernel_rfl) ?_ | refine ⟨(by kernel_rfl : confB _ _ _ _ _ = true), ?_⟩ | refine bd1 ?_ | refine bd2 ?_ | refine bdR ?_ | refine bdL ?_ | refine ⟨rfl, ?_⟩ | refine ⟨congrArg (Value.int _) (by omega), ?_⟩); (conv => whnf))
            | (refine And.intro ?_ ?_; rotate_left; (conv => whnf); rotate_right))
          all_goals first | rfl | omega | (rw [hR0]; done) | (rw [hR0]; rfl) | trace_state
        · intro y hy N1 hN1 hE1 hT1
          by_cases hlt : y < S
          · have hz := f0 y
            conv => whnf
            repeat' (first
              | exact trivial
              | ((first | refine i64L ?_ | refine u64L ?_ | refine u8L ?_); (conv => whnf))
              | ((refine ⟨fun hb => ?_, fun hb => ?_⟩) <;> (try simp only [nrm] at hb) <;> (first | (exfalso; omega) | contradiction | exact (tfF hb (by assumption)).elim | exact (ftF hb (by assumption)).elim | (conv => whnf)))
              | ((first | refine Draws.of cfg_ok (by kernel_rfl) ?_ | refine ⟨(by kernel_rfl : confB _ _ _ _ _ = true), ?_⟩ | refine bd1 ?_ | refine bd2 ?_ | refine bdR ?_ | refine bdL ?_ | refine ⟨rfl, ?_⟩ | refine ⟨congrArg (Value.int _) (by omega), ?_⟩); (conv => whnf))
              | (refine And.intro ?_ ?_; rotate_left; (conv => whnf); rotate_right))
            refine Runs.loopQ cfg_ok (σ := Nat) [1, 3, 6, 10, 11, 12, 48, 49, 53, 54] (fun x => [i64 id, .ptr 6 0, .ptr 12 0, .ptr 20 0, sightF 150101 150103, i64 y, i64 S, i64 y, i64 S, i64 x])
              (fun x => (6, .box (wldC w)) :: (12, .box (viewC zeroV)) :: (20, .box (viewO w.tick p 150001 (F y x).length 150003 0)) :: (150001, .row .chunk (F y x)) :: (150003, .row .seen []) :: sightM p r 150101 150103 150105)
              (fun x => x ≤ S) (fun x => S - x) 0 (by omega) ?_ ?_
            · conv => whnf
              repeat' (first
                | exact trivial
                | ((first | refine i64L ?_ | refine u64L ?_ | refine u8L ?_); (conv => whnf))
                | ((refine ⟨fun hb => ?_, fun hb => ?_⟩) <;> (try simp only [nrm] at hb) <;> (first | (exfalso; omega) | contradiction | exact (tfF hb (by assumption)).elim | exact (ftF hb (by assumption)).elim | (conv => whnf)))
                | ((first | refine Draws.of cfg_ok (by kernel_rfl) ?_ | refine ⟨(by kernel_rfl : confB _ _ _ _ _ = true), ?_⟩ | refine bd1 ?_ | refine bd2 ?_ | refine bdR ?_ | refine bdL ?_ | refine ⟨rfl, ?_⟩ | refine ⟨congrArg (Value.int _) (by omega), ?_⟩); (conv => whnf))
                | (refine And.intro ?_ ?_; rotate_left; (conv => whnf); rotate_right))
              all_goals first | rfl | omega | (rw [hz]; done) | (rw [hz]; exact List.take_length) | trace_state
            · intro x hx N2 hN2 hE2 hT2
              by_cases hlx : x < S
              · have hd : (F y x).length ≤ 272 := f4 y x hy hx
                have hcl := sight2_ev p r x y (by omega) (by omega) (by omega) (by omega)
                have hch := hch x y hlx hlt
                cases hq : seesB p r x y with
                | true =>
                  rw [hq] at hcl
                  have hsu := f2 y x hq
                  conv => whnf
                  repeat' (first
                    | exact trivial
                    | ((first | refine i64L ?_ | refine u64L ?_ | refine u8L ?_); (conv => whnf))
                    | ((refine ⟨fun hb => ?_, fun hb => ?_⟩) <;> (try simp only [nrm] at hb) <;> (first | (exfalso; omega) | contradiction | exact (tfF hb (by assumption)).elim | exact (ftF hb (by assumption)).elim | (conv => whnf)))
                    | ((first | (refine callEv (hcl) [(0, 150101), (2, 150103), (4, 150105)] rfl ?_ ?_ ?_) | (refine callEvD (hcl) [(0, 150101), (2, 150103), (4, 150105)] rfl ?_ ?_ ?_)); rotate_left; rotate_left; (conv => whnf); rotate_left; (repeat' (first | exact trivial | (refine ⟨rfl, ?_⟩))); kernel_rfl)
                    | ((first | (refine callApi (hch) rfl rfl ?_) | (refine callApiD (hch) rfl rfl ?_) | refine Draws.of cfg_ok (by kernel_rfl) ?_ | refine ⟨(by kernel_rfl : confB _ _ _ _ _ = true), ?_⟩ | refine bd1 ?_ | refine bd2 ?_ | refine bdR ?_ | refine bdL ?_ | refine ⟨rfl, ?_⟩ | refine ⟨congrArg (Value.int _) (by omega), ?_⟩); (conv => whnf))
                    | (refine And.intro ?_ ?_; rotate_left; (conv => whnf); rotate_right))
                  refine hN2 _ _ ?_
                  conv => whnf
                  refine .to (x + 1) (by omega) (by omega) ?_
                  conv => whnf
                  repeat' (first
                    | exact trivial
                    | ((first | refine i64L ?_ | refine u64L ?_ | refine u8L ?_); (conv => whnf))
                    | ((refine ⟨fun hb => ?_, fun hb => ?_⟩) <;> (try simp only [nrm] at hb) <;> (first | (exfalso; omega) | contradiction | exact (tfF hb (by assumption)).elim | exact (ftF hb (by assumption)).elim | (conv => whnf)))
                    | ((first | refine Draws.of cfg_ok (by kernel_rfl) ?_ | refine ⟨(by kernel_rfl : confB _ _ _ _ _ = true), ?_⟩ | refine bd1 ?_ | refine bd2 ?_ | refine bdR ?_ | refine bdL ?_ | refine ⟨rfl, ?_⟩ | refine ⟨congrArg (Value.int _) (by omega), ?_⟩); (conv => whnf))
                    | (refine And.intro ?_ ?_; rotate_left; (conv => whnf); rotate_right))
                  all_goals first | rfl | omega | (rw [hsu]; simp; done) | (rw [hsu]; exact List.take_of_length_le (by simp)) | (rw [hsu, List.take_of_length_le (by simp), List.take_of_length_le (by simp)]; rfl) | (rw [hsu, List.take_of_length_le (by simp)]; simp; done) | (rw [hsu]; simp; trace_state)
                | false =>
                  rw [hq] at hcl
                  have hsu := f3 y x hq
                  conv => whnf
                  repeat' (first
                    | exact trivial
                    | ((first | refine i64L ?_ | refine u64L ?_ | refine u8L ?_); (conv => whnf))
                    | ((refine ⟨fun hb => ?_, fun hb => ?_⟩) <;> (try simp only [nrm] at hb) <;> (first | (exfalso; omega) | contradiction | exact (tfF hb (by assumption)).elim | exact (ftF hb (by assumption)).elim | (conv => whnf)))
                    | ((first | (refine callEv (hcl) [(0, 150101), (2, 150103), (4, 150105)] rfl ?_ ?_ ?_) | (refine callEvD (hcl) [(0, 150101), (2, 150103), (4, 150105)] rfl ?_ ?_ ?_)); rotate_left; rotate_left; (conv => whnf); rotate_left; (repeat' (first | exact trivial | (refine ⟨rfl, ?_⟩))); kernel_rfl)
                    | ((first | (refine callApi (hch) rfl rfl ?_) | (refine callApiD (hch) rfl rfl ?_) | refine Draws.of cfg_ok (by kernel_rfl) ?_ | refine ⟨(by kernel_rfl : confB _ _ _ _ _ = true), ?_⟩ | refine bd1 ?_ | refine bd2 ?_ | refine bdR ?_ | refine bdL ?_ | refine ⟨rfl, ?_⟩ | refine ⟨congrArg (Value.int _) (by omega), ?_⟩); (conv => whnf))
                    | (refine And.intro ?_ ?_; rotate_left; (conv => whnf); rotate_right))
                  refine hN2 _ _ ?_
                  conv => whnf
                  refine .to (x + 1) (by omega) (by omega) ?_
                  conv => whnf
                  repeat' (first
                    | exact trivial
                    | ((first | refine i64L ?_ | refine u64L ?_ | refine u8L ?_); (conv => whnf))
                    | ((refine ⟨fun hb => ?_, fun hb => ?_⟩) <;> (try simp only [nrm] at hb) <;> (first | (exfalso; omega) | contradiction | exact (tfF hb (by assumption)).elim | exact (ftF hb (by assumption)).elim | (conv => whnf)))
                    | ((first | refine Draws.of cfg_ok (by kernel_rfl) ?_ | refine ⟨(by kernel_rfl : confB _ _ _ _ _ = true), ?_⟩ | refine bd1 ?_ | refine bd2 ?_ | refine bdR ?_ | refine bdL ?_ | refine ⟨rfl, ?_⟩ | refine ⟨congrArg (Value.int _) (by omega), ?_⟩); (conv => whnf))
                    | (refine And.intro ?_ ?_; rotate_left; (conv => whnf); rotate_right))
                  all_goals first | rfl | omega | (rw [hsu]; done) | (rw [hsu]; exact List.take_length) | trace_state
              · obtain rfl : x = S := by omega
                have hsu := f1 y
                conv => whnf
                repeat' (first
                  | exact trivial
                  | ((first | refine i64L ?_ | refine u64L ?_ | refine u8L ?_); (conv => whnf))
                  | ((refine ⟨fun hb => ?_, fun hb => ?_⟩) <;> (try simp only [nrm] at hb) <;> (first | (exfalso; omega) | contradiction | exact (tfF hb (by assumption)).elim | exact (ftF hb (by assumption)).elim | (conv => whnf)))
                  | ((first | refine Draws.of cfg_ok (by kernel_rfl) ?_ | refine ⟨(by kernel_rfl : confB _ _ _ _ _ = true), ?_⟩ | refine bd1 ?_ | refine bd2 ?_ | refine bdR ?_ | refine bdL ?_ | refine ⟨rfl, ?_⟩ | refine ⟨congrArg (Value.int _) (by omega), ?_⟩); (conv => whnf))
                  | (refine And.intro ?_ ?_; rotate_left; (conv => whnf); rotate_right))
                refine hE2 _ _ _ ?_
                conv => whnf
                repeat' (first
                  | exact trivial
                  | ((first | refine i64L ?_ | refine u64L ?_ | refine u8L ?_); (conv => whnf))
                  | ((refine ⟨fun hb => ?_, fun hb => ?_⟩) <;> (try simp only [nrm] at hb) <;> (first | (exfalso; omega) | contradiction | exact (tfF hb (by assumption)).elim | exact (ftF hb (by assumption)).elim | (conv => whnf)))
                  | ((first | refine Draws.of cfg_ok (by kernel_rfl) ?_ | refine ⟨(by kernel_rfl : confB _ _ _ _ _ = true), ?_⟩ | refine bd1 ?_ | refine bd2 ?_ | refine bdR ?_ | refine bdL ?_ | refine ⟨rfl, ?_⟩ | refine ⟨congrArg (Value.int _) (by omega), ?_⟩); (conv => whnf))
                  | (refine And.intro ?_ ?_; rotate_left; (conv => whnf); rotate_right))
                refine hN1 _ _ ?_
                conv => whnf
                refine .to (y + 1) (by omega) (by omega) ?_
                conv => whnf
                repeat' (first
                  | exact trivial
                  | ((first | refine i64L ?_ | refine u64L ?_ | refine u8L ?_); (conv => whnf))
                  | ((refine ⟨fun hb => ?_, fun hb => ?_⟩) <;> (try simp only [nrm] at hb) <;> (first | (exfalso; omega) | contradiction | exact (tfF hb (by assumption)).elim | exact (ftF hb (by assumption)).elim | (conv => whnf)))
                  | ((first | refine Draws.of cfg_ok (by kernel_rfl) ?_ | refine ⟨(by kernel_rfl : confB _ _ _ _ _ = true), ?_⟩ | refine bd1 ?_ | refine bd2 ?_ | refine bdR ?_ | refine bdL ?_ | refine ⟨rfl, ?_⟩ | refine ⟨congrArg (Value.int _) (by omega), ?_⟩); (conv => whnf))
                  | (refine And.intro ?_ ?_; rotate_left; (conv => whnf); rotate_right))
                all_goals first | rfl | omega | (rw [hsu]; done) | (rw [hsu]; exact List.take_length) | trace_state
          · obtain rfl : y = S := by omega
            have hln := hRl y
            have hln2 : y * y ≤ 16 * 16 := Nat.mul_le_mul (by omega) (by omega)
            conv => whnf
            repeat' (first
              | exact trivial
              | ((first | refine i64L ?_ | refine u64L ?_ | refine u8L ?_); (conv => whnf))
              | ((refine ⟨fun hb => ?_, fun hb => ?_⟩) <;> (try simp only [nrm] at hb) <;> (first | (exfalso; omega) | contradiction | exact (tfF hb (by assumption)).elim | exact (ftF hb (by assumption)).elim | (conv => whnf)))
              | ((first | refine Draws.of cfg_ok (by kernel_rfl) ?_ | refine ⟨(by kernel_rfl : confB _ _ _ _ _ = true), ?_⟩ | refine bd1 ?_ | refine bd2 ?_ | refine bdR ?_ | refine bdL ?_ | refine ⟨rfl, ?_⟩ | refine ⟨congrArg (Value.int _) (by omega), ?_⟩); (conv => whnf))
              | (refine And.intro ?_ ?_; rotate_left; (conv => whnf); rotate_right))
            refine hE1 _ _ _ ?_
            conv => whnf
            repeat' (first
              | exact trivial
              | ((first | refine i64L ?_ | refine u64L ?_ | refine u8L ?_); (conv => whnf))
              | ((refine ⟨fun hb => ?_, fun hb => ?_⟩) <;> (try simp only [nrm] at hb) <;> (first | (exfalso; omega) | contradiction | exact (tfF hb (by assumption)).elim | exact (ftF hb (by assumption)).elim | (conv => whnf)))
              | ((first | refine Draws.of cfg_ok (by kernel_rfl) ?_ | refine ⟨(by kernel_rfl : confB _ _ _ _ _ = true), ?_⟩ | refine bd1 ?_ | refine bd2 ?_ | refine bdR ?_ | refine bdL ?_ | refine ⟨rfl, ?_⟩ | refine ⟨congrArg (Value.int _) (by omega), ?_⟩); (conv => whnf))
              | (refine And.intro ?_ ?_; rotate_left; (conv => whnf); rotate_right))
            refine Runs.loopQ cfg_ok (σ := Nat) [1, 6, 10, 11, 77, 78, 79] (fun k => [i64 id, .ptr 12 0, .ptr 20 0, sightF 150101 150103, .vec .player w.players, i64 w.players.length, i64 k])
              (fun k => (12, .box (viewC zeroV)) :: (20, .box (viewO w.tick p 150001 (R y).length 150003 (O k).length)) :: (150001, .row .chunk (R y)) :: (150003, .row .seen (O k)) :: sightM p r 150101 150103 150105)
              (fun k => k ≤ w.players.length) (fun k => w.players.length - k) 0 (by omega) ?_ ?_
            · conv => whnf
              repeat' (first
                | exact trivial
                | ((first | refine i64L ?_ | refine u64L ?_ | refine u8L ?_); (conv => whnf))
                | ((refine ⟨fun hb => ?_, fun hb => ?_⟩) <;> (try simp only [nrm] at hb) <;> (first | (exfalso; omega) | contradiction | exact (tfF hb (by assumption)).elim | exact (ftF hb (by assumption)).elim | (conv => whnf)))
                | ((first | refine Draws.of cfg_ok (by kernel_rfl) ?_ | refine ⟨(by kernel_rfl : confB _ _ _ _ _ = true), ?_⟩ | refine bd1 ?_ | refine bd2 ?_ | refine bdR ?_ | refine bdL ?_ | refine ⟨rfl, ?_⟩ | refine ⟨congrArg (Value.int _) (by omega), ?_⟩); (conv => whnf))
                | (refine And.intro ?_ ?_; rotate_left; (conv => whnf); rotate_right))
              all_goals first | rfl | omega | exact List.take_length | (rw [o0]; done) | (rw [o0]; rfl) | trace_state
            · intro k hk N3 hN3 hE3 hT3
              have hol := o2 k
              by_cases hlk : k < w.players.length
              · have hqb := within_bd hRW (elt_mem (t := .player) hlk)
                have hcl := sight2_ev p r ((elt .player w.players k).x / 8) ((elt .player w.players k).y / 8) (by omega) (by omega) (by omega) (by omega)
                have hqc : 0 ≤ (elt .player w.players ((k : Nat) : Int).toNat).x ∧ (elt .player w.players ((k : Nat) : Int).toNat).x < 128 ∧ 0 ≤ (elt .player w.players ((k : Nat) : Int).toNat).y ∧ (elt .player w.players ((k : Nat) : Int).toNat).y < 128 := hqb
                have hsu := o1 k hlk
                have hln3 := o2 k
                by_cases hid : (elt .player w.players k).id = id
                · rw [if_neg (by unfold othB; rw [decide_eq_true hid]; simp), List.append_nil] at hsu
                  conv => whnf
                  repeat' (first
                    | exact trivial
                    | ((first | refine i64L ?_ | refine u64L ?_ | refine u8L ?_); (conv => whnf))
                    | ((refine ⟨fun hb => ?_, fun hb => ?_⟩) <;> (try simp only [nrm] at hb) <;> (first | (exfalso; omega) | contradiction | exact (tfF hb (by assumption)).elim | exact (ftF hb (by assumption)).elim | (conv => whnf)))
                    | ((first | (refine callEv (hcl) [(0, 150101), (2, 150103), (4, 150105)] rfl ?_ ?_ ?_) | (refine callEvD (hcl) [(0, 150101), (2, 150103), (4, 150105)] rfl ?_ ?_ ?_)); rotate_left; rotate_left; (conv => whnf); rotate_left; (repeat' (first | exact trivial | (refine ⟨rfl, ?_⟩))); kernel_rfl)
                    | ((first | refine Draws.of cfg_ok (by kernel_rfl) ?_ | refine ⟨(by kernel_rfl : confB _ _ _ _ _ = true), ?_⟩ | refine bd1 ?_ | refine bd2 ?_ | refine bdR ?_ | refine bdL ?_ | refine ⟨rfl, ?_⟩ | refine ⟨congrArg (Value.int _) (by omega), ?_⟩); (conv => whnf))
                    | (refine And.intro ?_ ?_; rotate_left; (conv => whnf); rotate_right))
                  refine hN3 _ _ ?_
                  conv => whnf
                  refine .to (k + 1) (by omega) (by omega) ?_
                  conv => whnf
                  repeat' (first
                    | exact trivial
                    | ((first | refine i64L ?_ | refine u64L ?_ | refine u8L ?_); (conv => whnf))
                    | ((refine ⟨fun hb => ?_, fun hb => ?_⟩) <;> (try simp only [nrm] at hb) <;> (first | (exfalso; omega) | contradiction | exact (tfF hb (by assumption)).elim | exact (ftF hb (by assumption)).elim | (conv => whnf)))
                    | ((first | refine Draws.of cfg_ok (by kernel_rfl) ?_ | refine ⟨(by kernel_rfl : confB _ _ _ _ _ = true), ?_⟩ | refine bd1 ?_ | refine bd2 ?_ | refine bdR ?_ | refine bdL ?_ | refine ⟨rfl, ?_⟩ | refine ⟨congrArg (Value.int _) (by omega), ?_⟩); (conv => whnf))
                    | (refine And.intro ?_ ?_; rotate_left; (conv => whnf); rotate_right))
                  all_goals first | rfl | omega | exact List.take_length | (rw [hsu]; done) | (rw [hsu]; exact List.take_length) | trace_state
                · cases hq : seesB p r ((elt .player w.players k).x / 8) ((elt .player w.players k).y / 8) with
                  | false =>
                    rw [if_neg (by unfold othB; rw [hq, Bool.and_false]; simp), List.append_nil] at hsu
                    rw [hq] at hcl
                    conv => whnf
                    repeat' (first
                      | exact trivial
                      | ((first | refine i64L ?_ | refine u64L ?_ | refine u8L ?_); (conv => whnf))
                      | ((refine ⟨fun hb => ?_, fun hb => ?_⟩) <;> (try simp only [nrm] at hb) <;> (first | (exfalso; omega) | contradiction | exact (tfF hb (by assumption)).elim | exact (ftF hb (by assumption)).elim | (conv => whnf)))
                      | ((first | (refine callEv (hcl) [(0, 150101), (2, 150103), (4, 150105)] rfl ?_ ?_ ?_) | (refine callEvD (hcl) [(0, 150101), (2, 150103), (4, 150105)] rfl ?_ ?_ ?_)); rotate_left; rotate_left; (conv => whnf); rotate_left; (repeat' (first | exact trivial | (refine ⟨rfl, ?_⟩))); kernel_rfl)
                      | ((first | refine Draws.of cfg_ok (by kernel_rfl) ?_ | refine ⟨(by kernel_rfl : confB _ _ _ _ _ = true), ?_⟩ | refine bd1 ?_ | refine bd2 ?_ | refine bdR ?_ | refine bdL ?_ | refine ⟨rfl, ?_⟩ | refine ⟨congrArg (Value.int _) (by omega), ?_⟩); (conv => whnf))
                      | (refine And.intro ?_ ?_; rotate_left; (conv => whnf); rotate_right))
                    refine hN3 _ _ ?_
                    conv => whnf
                    refine .to (k + 1) (by omega) (by omega) ?_
                    conv => whnf
                    repeat' (first
                      | exact trivial
                      | ((first | refine i64L ?_ | refine u64L ?_ | refine u8L ?_); (conv => whnf))
                      | ((refine ⟨fun hb => ?_, fun hb => ?_⟩) <;> (try simp only [nrm] at hb) <;> (first | (exfalso; omega) | contradiction | exact (tfF hb (by assumption)).elim | exact (ftF hb (by assumption)).elim | (conv => whnf)))
                      | ((first | refine Draws.of cfg_ok (by kernel_rfl) ?_ | refine ⟨(by kernel_rfl : confB _ _ _ _ _ = true), ?_⟩ | refine bd1 ?_ | refine bd2 ?_ | refine bdR ?_ | refine bdL ?_ | refine ⟨rfl, ?_⟩ | refine ⟨congrArg (Value.int _) (by omega), ?_⟩); (conv => whnf))
                      | (refine And.intro ?_ ?_; rotate_left; (conv => whnf); rotate_right))
                    all_goals first | rfl | omega | exact List.take_length | (rw [hsu]; done) | (rw [hsu]; exact List.take_length) | trace_state
                  | true =>
                    rw [if_pos (by unfold othB; rw [hq, decide_eq_false hid]; rfl)] at hsu
                    rw [hq] at hcl
                    conv => whnf
                    repeat' (first
                      | exact trivial
                      | ((first | refine i64L ?_ | refine u64L ?_ | refine u8L ?_); (conv => whnf))
                      | ((refine ⟨fun hb => ?_, fun hb => ?_⟩) <;> (try simp only [nrm] at hb) <;> (first | (exfalso; omega) | contradiction | exact (tfF hb (by assumption)).elim | exact (ftF hb (by assumption)).elim | (conv => whnf)))
                      | ((first | (refine callEv (hcl) [(0, 150101), (2, 150103), (4, 150105)] rfl ?_ ?_ ?_) | (refine callEvD (hcl) [(0, 150101), (2, 150103), (4, 150105)] rfl ?_ ?_ ?_)); rotate_left; rotate_left; (conv => whnf); rotate_left; (repeat' (first | exact trivial | (refine ⟨rfl, ?_⟩))); kernel_rfl)
                      | ((first | refine Draws.of cfg_ok (by kernel_rfl) ?_ | refine ⟨(by kernel_rfl : confB _ _ _ _ _ = true), ?_⟩ | refine bd1 ?_ | refine bd2 ?_ | refine bdR ?_ | refine bdL ?_ | refine ⟨rfl, ?_⟩ | refine ⟨congrArg (Value.int _) (by omega), ?_⟩); (conv => whnf))
                      | (refine And.intro ?_ ?_; rotate_left; (conv => whnf); rotate_right))
                    refine hN3 _ _ ?_
                    conv => whnf
                    refine .to (k + 1) (by omega) (by omega) ?_
                    conv => whnf
                    repeat' (first
                      | exact trivial
                      | ((first | refine i64L ?_ | refine u64L ?_ | refine u8L ?_); (conv => whnf))
                      | ((refine ⟨fun hb => ?_, fun hb => ?_⟩) <;> (try simp only [nrm] at hb) <;> (first | (exfalso; omega) | contradiction | exact (tfF hb (by assumption)).elim | exact (ftF hb (by assumption)).elim | (conv => whnf)))
                      | ((first | refine Draws.of cfg_ok (by kernel_rfl) ?_ | refine ⟨(by kernel_rfl : confB _ _ _ _ _ = true), ?_⟩ | refine bd1 ?_ | refine bd2 ?_ | refine bdR ?_ | refine bdL ?_ | refine ⟨rfl, ?_⟩ | refine ⟨congrArg (Value.int _) (by omega), ?_⟩); (conv => whnf))
                      | (refine And.intro ?_ ?_; rotate_left; (conv => whnf); rotate_right))
                    all_goals first | rfl | omega | exact List.take_length | (rw [hsu]; simp; done) | (rw [hsu]; exact List.take_of_length_le (by simp)) | (rw [hsu, List.take_of_length_le (by simp), List.take_of_length_le (by simp), List.take_of_length_le (by simp)]; rfl) | trace_state
              · obtain rfl : k = w.players.length := by omega
                conv => whnf
                repeat' (first
                  | exact trivial
                  | ((first | refine i64L ?_ | refine u64L ?_ | refine u8L ?_); (conv => whnf))
                  | ((refine ⟨fun hb => ?_, fun hb => ?_⟩) <;> (try simp only [nrm] at hb) <;> (first | (exfalso; omega) | contradiction | exact (tfF hb (by assumption)).elim | exact (ftF hb (by assumption)).elim | (conv => whnf)))
                  | ((first | refine Draws.of cfg_ok (by kernel_rfl) ?_ | refine ⟨(by kernel_rfl : confB _ _ _ _ _ = true), ?_⟩ | refine bd1 ?_ | refine bd2 ?_ | refine bdR ?_ | refine bdL ?_ | refine ⟨rfl, ?_⟩ | refine ⟨congrArg (Value.int _) (by omega), ?_⟩); (conv => whnf))
                  | (refine And.intro ?_ ?_; rotate_left; (conv => whnf); rotate_right))
                refine hE3 _ _ _ ?_
                conv => whnf
                repeat' (first
                  | exact trivial
                  | ((first | refine i64L ?_ | refine u64L ?_ | refine u8L ?_); (conv => whnf))
                  | ((refine ⟨fun hb => ?_, fun hb => ?_⟩) <;> (try simp only [nrm] at hb) <;> (first | (exfalso; omega) | contradiction | exact (tfF hb (by assumption)).elim | exact (ftF hb (by assumption)).elim | (conv => whnf)))
                  | ((first | refine Draws.of cfg_ok (by kernel_rfl) ?_ | refine ⟨(by kernel_rfl : confB _ _ _ _ _ = true), ?_⟩ | refine bd1 ?_ | refine bd2 ?_ | refine bdR ?_ | refine bdL ?_ | refine ⟨rfl, ?_⟩ | refine ⟨congrArg (Value.int _) (by omega), ?_⟩); (conv => whnf))
                  | (refine And.intro ?_ ?_; rotate_left; (conv => whnf); rotate_right))
                all_goals first | rfl | omega | exact List.take_length | trace_state

end Go.Proofs.Ytelgmmcnopjolaa

/- Plain laws of view: how many are seen; who sees farther sees more; the same from both sides. -/
set_option linter.unusedSimpArgs false
set_option linter.unusedVariables false
namespace Go.Proofs.Ytelgmmcnopjolaa
open Go Go.RowKit Eng

theorem nearB_iff {a b r : Int} : nearB a b r = true ↔ a - b ≤ r ∧ b - a ≤ r := by
  unfold nearB; rw [decide_eq_true_eq]; omega
theorem near_comm (a b r : Int) : nearB a b r = nearB b a r := by
  rw [Bool.eq_iff_iff, nearB_iff, nearB_iff]; omega
theorem near_mono {a b r s : Int} (h : r ≤ s) (hn : nearB a b r = true) : nearB a b s = true := by
  rw [nearB_iff] at *; omega
theorem sees_comm (p q : Player) (r : Int) : seesB p r (q.x / 8) (q.y / 8) = seesB q r (p.x / 8) (p.y / 8) := by
  unfold seesB; rw [near_comm, near_comm (p.y / 8)]
theorem sees_mono {p : Player} {r s x y : Int} (h : r ≤ s) (hn : seesB p r x y = true) : seesB p s x y = true := by
  unfold seesB at *
  rw [Bool.and_eq_true] at *
  exact ⟨near_mono h hn.1, near_mono h hn.2⟩
def cntI (a r : Int) (k : Nat) : Nat := ((List.range k).filter fun x => nearB a (x : Nat) r).length
theorem cnt_eq (a r : Int) (k : Nat) (h0 : 0 ≤ a) (hr : 0 ≤ r) : (cntI a r k : Int) = max 0 (min (a + r) (k - 1) - max (a - r) 0 + 1) := by
  induction k with
  | zero => simp [cntI]; omega
  | succ k ih =>
    have hc : cntI a r (k + 1) = cntI a r k + (if nearB a (k : Nat) r = true then 1 else 0) := by
      unfold cntI
      rw [List.range_succ, List.filter_append, List.length_append]
      congr 1
      by_cases h : nearB a (k : Nat) r = true <;> simp [List.filter, h]
    rw [hc]
    by_cases h : nearB a (k : Nat) r = true
    · rw [if_pos h]; rw [nearB_iff] at h; omega
    · rw [if_neg h]; rw [nearB_iff] at h; omega
theorem cnt_side {a r : Int} {S : Nat} (h0 : 0 ≤ a) (hr : 0 ≤ r) (hS : a < S) : (cntI a r S : Int) = min (a + r) (S - 1) - max (a - r) 0 + 1 := by
  rw [cnt_eq a r S h0 hr]; omega
theorem rowV_cnt (w : Wld) (p : Player) (r : Int) (y k : Nat) : (rowV w p r y k).length = if nearB (p.y / 8) (y : Nat) r = true then cntI (p.x / 8) r k else 0 := by
  unfold rowV cntI
  rw [List.length_map]
  cases h : nearB (p.y / 8) (y : Nat) r with
  | true => rw [if_pos rfl]; congr 1; apply List.filter_congr; intro x _; unfold seesB; rw [h, Bool.and_true]
  | false =>
    rw [if_neg (by simp), List.length_eq_zero_iff, List.filter_eq_nil_iff]
    intro x _; unfold seesB; rw [h, Bool.and_false]; simp
theorem rowsV_cnt (w : Wld) (p : Player) (r : Int) (s y : Nat) : (rowsV w p r s y).length = cntI (p.x / 8) r s * cntI (p.y / 8) r y := by
  induction y with
  | zero => simp [rowsV, cntI]
  | succ y ih =>
    have hc : cntI (p.y / 8) r (y + 1) = cntI (p.y / 8) r y + (if nearB (p.y / 8) (y : Nat) r = true then 1 else 0) := by
      unfold cntI
      rw [List.range_succ, List.filter_append, List.length_append]
      congr 1
      by_cases h : nearB (p.y / 8) (y : Nat) r = true <;> simp [List.filter, h]
    rw [rowsV, List.length_append, ih, rowV_cnt, hc, Nat.mul_add]
    split <;> simp
theorem filter_sub {α : Type} {P Q : α → Bool} (l : List α) (h : ∀ x, P x = true → Q x = true) : (l.filter P).Sublist (l.filter Q) := by
  have : l.filter P = (l.filter Q).filter P := by
    rw [List.filter_filter]
    apply List.filter_congr
    intro x _
    cases hp : P x with
    | true => rw [h x hp]; rfl
    | false => rfl
  rw [this]; exact List.filter_sublist
theorem rowsV_sub (w : Wld) (p : Player) {r t : Int} (h : r ≤ t) (s y : Nat) : (rowsV w p r s y).Sublist (rowsV w p t s y) := by
  induction y with
  | zero => exact List.Sublist.refl _
  | succ y ih =>
    rw [rowsV, rowsV]
    refine ih.append ?_
    unfold rowV
    exact (filter_sub _ fun x hx => sees_mono h hx).map _
theorem othV_sub (l : List Player) (p : Player) {r t : Int} (h : r ≤ t) (id : Int) (k : Nat) : (othV l p r id k).Sublist (othV l p t id k) := by
  unfold othV
  refine (filter_sub _ fun q hq => ?_).map _
  unfold othB at *
  rw [Bool.and_eq_true] at *
  exact ⟨hq.1, sees_mono h hq.2⟩

def subK {α κ : Type} (key : α → κ) (A B : List α) (k i : Nat) : Prop := k ≤ A.length ∧ ((A.drop k).map key).Sublist ((B.drop i).map key)
theorem sub_zero {α κ : Type} {key : α → κ} {A B : List α} (h : A.Sublist B) : subK key A B 0 0 := ⟨by omega, h.map _⟩
theorem drop_get {α : Type} {A : List α} {k : Nat} {a : α} (h : A[k]? = some a) : A.drop k = a :: A.drop (k + 1) := by
  obtain ⟨h1, h2⟩ := List.getElem?_eq_some_iff.1 h
  rw [List.drop_eq_getElem_cons h1, h2]
theorem sub_hit {α κ : Type} {key : α → κ} {A B : List α} {k i : Nat} {a b : α} (hs : subK key A B k i) (ha : A[k]? = some a) (hb : B[i]? = some b) (h : key a = key b) : subK key A B (k + 1) (i + 1) := by
  refine ⟨(List.getElem?_eq_some_iff.1 ha).1, ?_⟩
  have h2 := hs.2
  rw [drop_get ha, drop_get hb, List.map_cons, List.map_cons, h, List.cons_sublist_cons] at h2
  exact h2
theorem sub_miss {α κ : Type} {key : α → κ} {A B : List α} {k i : Nat} {a b : α} (hs : subK key A B k i) (ha : A[k]? = some a) (hb : B[i]? = some b) (h : ¬ key a = key b) : subK key A B k (i + 1) := by
  refine ⟨hs.1, ?_⟩
  have h2 := hs.2
  rw [drop_get hb, drop_get ha, List.map_cons, List.map_cons] at h2
  rw [drop_get ha, List.map_cons]
  generalize key a = u at *
  generalize key b = v at *
  cases h2 with
  | cons _ h3 => exact h3
  | cons_cons _ h3 => exact absurd rfl h
theorem sub_past {α κ : Type} {key : α → κ} {A B : List α} {k i : Nat} (hs : subK key A B k i) (h : ¬ k < A.length) : subK key A B k (i + 1) := by
  refine ⟨hs.1, ?_⟩
  rw [List.drop_of_length_le (by omega)]; simp
theorem sub_end {α κ : Type} {key : α → κ} {A B : List α} {k : Nat} (hs : subK key A B k B.length) : k = A.length := by
  have h2 := hs.2
  rw [List.drop_length, List.map_nil] at h2
  have h3 : ((A.drop k).map key).length = 0 := by rw [List.sublist_nil.1 h2]; rfl
  rw [List.length_map, List.length_drop] at h3
  have := hs.1
  omega

end Go.Proofs.Ytelgmmcnopjolaa

/- view.Sees; homesteadlaw19.awake. -/
set_option linter.unusedSimpArgs false
set_option linter.unusedVariables false
namespace Go.Proofs.Ytelgmmcnopjolaa
open Go Go.RowKit Eng

def seesW (w : Wld) (id r x y : Int) : Bool := (playerW w id).2 && decide (0 ≤ r ∧ r ≤ 3 ∧ 0 ≤ x ∧ 0 ≤ y ∧ x < w.size ∧ y < w.size) && seesB (playerW w id).1 r x y
theorem player_right {w : Wld} {id : Int} (h : (playerW w id).2 = true) : RW w := by
  cases hR : rightW w with
  | true => exact rightW_iff.1 hR
  | false => unfold playerW at h; rw [if_pos hR] at h; simp at h
theorem player_mem {w : Wld} {id : Int} (h : (playerW w id).2 = true) : (playerW w id).1 ∈ w.players ∧ (playerW w id).1.id = id := by
  have hR := rightW_iff.2 (player_right h)
  unfold playerW at h ⊢
  rw [if_neg (by rw [hR]; simp)] at h ⊢
  split
  · rename_i p hg; exact getK_mem hg
  · rename_i hg; rw [hg] at h; simp at h
set_option maxRecDepth 100000 in
set_option maxHeartbeats 4000000 in
theorem seesW_api (w : Wld) (id r x y : Int) (hw : OkW w) : Api Try.prog 27 [wldV w, i64 id, i64 r, i64 x, i64 y] (bol (seesW w id r x y)) := by
  have hpl := wplayer_api w id hw
  cases hP : (playerW w id).2 with
  | false =>
    rw [hP] at hpl
    have hs : seesW w id r x y = false := by unfold seesW; rw [hP]; rfl
    rw [hs]
    refine Api.of_fin cfg_ok Try.func27 rfl (nt := 44) rfl rfl ?_
    conv => whnf
    repeat' (first
      | exact trivial
      | ((first | refine i64L ?_ | refine u64L ?_ | refine u8L ?_); (conv => whnf))
      | ((refine ⟨fun hb => ?_, fun hb => ?_⟩) <;> (try simp only [nrm] at hb) <;> (first | (exfalso; omega) | contradiction | exact (tfF hb (by assumption)).elim | exact (ftF hb (by assumption)).elim | (conv => whnf)))
      | ((first | (refine callApi (hpl) rfl rfl ?_) | (refine callApiD (hpl) rfl rfl ?_) | refine Draws.of cfg_ok (by kernel_rfl) ?_ | refine ⟨(by kernel_rfl : confB _ _ _ _ _ = true), ?_⟩ | refine bd1 ?_ | refine bd2 ?_ | refine bdR ?_ | refine bdL ?_ | refine ⟨rfl, ?_⟩ | refine ⟨congrArg (Value.int _) (by omega), ?_⟩); (conv => whnf))
      | (refine And.intro ?_ ?_; rotate_left; (conv => whnf); rotate_right))
    all_goals first | omega | rfl | trace_state
  | true =>
    rw [hP] at hpl
    have hRW := player_right hP
    have hsz := hRW.size
    have hpb := within_bd hRW (player_mem hP).1
    by_cases hin : 0 ≤ r ∧ r ≤ 3 ∧ 0 ≤ x ∧ 0 ≤ y ∧ x < w.size ∧ y < w.size
    · have hs : seesW w id r x y = seesB (playerW w id).1 r x y := by unfold seesW; rw [hP, decide_eq_true hin]; rfl
      rw [hs]
      generalize (playerW w id).1 = p at *
      have hsi := sight_ev p r
      have hcl := sight2_ev p r x y (by omega) (by omega) (by omega) (by omega)
      generalize seesB p r x y = B at *
      refine Api.of_fin cfg_ok Try.func27 rfl (nt := 44) rfl rfl ?_
      conv => whnf
      repeat' (first
        | exact trivial
        | ((first | refine i64L ?_ | refine u64L ?_ | refine u8L ?_); (conv => whnf))
        | ((refine ⟨fun hb => ?_, fun hb => ?_⟩) <;> (try simp only [nrm] at hb) <;> (first | (exfalso; omega) | contradiction | exact (tfF hb (by assumption)).elim | exact (ftF hb (by assumption)).elim | (conv => whnf)))
        | ((first | (refine callEv (hsi) [(390001, 150101), (390003, 150103), (390005, 150105)] rfl ?_ ?_ ?_) | (refine callEvD (hsi) [(390001, 150101), (390003, 150103), (390005, 150105)] rfl ?_ ?_ ?_)); rotate_left; rotate_left; (conv => whnf); rotate_left; (repeat' (first | exact trivial | (refine ⟨rfl, ?_⟩))); kernel_rfl)
        | ((first | (refine callEv (hcl) [(0, 150101), (2, 150103), (4, 150105)] rfl ?_ ?_ ?_) | (refine callEvD (hcl) [(0, 150101), (2, 150103), (4, 150105)] rfl ?_ ?_ ?_)); rotate_left; rotate_left; (conv => whnf); rotate_left; (repeat' (first | exact trivial | (refine ⟨rfl, ?_⟩))); kernel_rfl)
        | ((first | (refine callApi (hpl) rfl rfl ?_) | (refine callApiD (hpl) rfl rfl ?_) | refine Draws.of cfg_ok (by kernel_rfl) ?_ | refine ⟨(by kernel_rfl : confB _ _ _ _ _ = true), ?_⟩ | refine bd1 ?_ | refine bd2 ?_ | refine bdR ?_ | refine bdL ?_ | refine ⟨rfl, ?_⟩ | refine ⟨congrArg (Value.int _) (by omega), ?_⟩); (conv => whnf))
        | (refine And.intro ?_ ?_; rotate_left; (conv => whnf); rotate_right))
      all_goals first | omega | rfl | trace_state
    · have hs : seesW w id r x y = false := by unfold seesW; rw [hP, decide_eq_false hin]; rfl
      rw [hs]
      refine Api.of_fin cfg_ok Try.func27 rfl (nt := 44) rfl rfl ?_
      conv => whnf
      repeat' (first
        | exact trivial
        | ((first | refine i64L ?_ | refine u64L ?_ | refine u8L ?_); (conv => whnf))
        | ((refine ⟨fun hb => ?_, fun hb => ?_⟩) <;> (try simp only [nrm] at hb) <;> (first | (exfalso; omega) | contradiction | exact (tfF hb (by assumption)).elim | exact (ftF hb (by assumption)).elim | (conv => whnf)))
        | ((first | (refine callApi (hpl) rfl rfl ?_) | (refine callApiD (hpl) rfl rfl ?_) | refine Draws.of cfg_ok (by kernel_rfl) ?_ | refine ⟨(by kernel_rfl : confB _ _ _ _ _ = true), ?_⟩ | refine bd1 ?_ | refine bd2 ?_ | refine bdR ?_ | refine bdL ?_ | refine ⟨rfl, ?_⟩ | refine ⟨congrArg (Value.int _) (by omega), ?_⟩); (conv => whnf))
        | (refine And.intro ?_ ?_; rotate_left; (conv => whnf); rotate_right))
      all_goals first | omega | rfl | trace_state

def wA : Wld := ⟨3, 1, 0, [], []⟩
def pA1 : Player := ⟨1, 10, 10, List.replicate 8 ⟨0, 0⟩, -1, [], false⟩
def pA2 : Player := ⟨2, 0, 0, List.replicate 8 ⟨0, 0⟩, -1, [], false⟩
def wB : Wld := ⟨3, 1, 0, [], [pA1]⟩
def wC : Wld := ⟨3, 1, 0, [], [pA1, pA2]⟩
theorem newA : newW 3 1 = (wA, 0) := by rfl
theorem okW_A : OkW wA := ⟨by simp [wA], by simp [wA], by simp [wA], by decide, by decide⟩
theorem okP_A1 : OkP pA1 := ⟨by intro s hs; rw [show s = ⟨0, 0⟩ from List.eq_of_mem_replicate hs]; exact ⟨by decide, by decide⟩, (by intro s hs; cases hs), by decide, by decide⟩
theorem okP_A2 : OkP pA2 := ⟨by intro s hs; rw [show s = ⟨0, 0⟩ from List.eq_of_mem_replicate hs]; exact ⟨by decide, by decide⟩, (by intro s hs; cases hs), by decide, by decide⟩
theorem okW_B : OkW wB := ⟨by simp [wB], by simp [wB], by simp [wB, okP_A1], by decide, by decide⟩
theorem okW_C : OkW wC := ⟨by simp [wC], by simp [wC], by simp [wC, okP_A1, okP_A2], by decide, by decide⟩
theorem setA1 : setW wA pA1 = (wB, 0) := by kernel_rfl
theorem setA2 : setW wB pA2 = (wC, 0) := by kernel_rfl
theorem rightC : rightW wC = true := by kernel_rfl
theorem plA1 : playerW wC 1 = (pA1, true) := by kernel_rfl
theorem plA2 : playerW wC 2 = (pA2, true) := by kernel_rfl
def vA1 : Viw := ⟨0, pA1, rowsV wC pA1 0 3 3, othV [pA1, pA2] pA1 0 1 2⟩
def vA2 : Viw := ⟨0, pA1, rowsV wC pA1 1 3 3, othV [pA1, pA2] pA1 1 1 2⟩
def vA3 : Viw := ⟨0, pA2, rowsV wC pA2 1 3 3, othV [pA1, pA2] pA2 1 2 2⟩
theorem ofA1 : ofW wC 1 0 = (vA1, 0) := by
  unfold ofW; rw [if_neg (by decide), if_neg (by rw [rightC]; simp), if_neg (by rw [plA1]; simp), plA1]; rfl
theorem ofA2 : ofW wC 1 1 = (vA2, 0) := by
  unfold ofW; rw [if_neg (by decide), if_neg (by rw [rightC]; simp), if_neg (by rw [plA1]; simp), plA1]; rfl
theorem ofA3 : ofW wC 2 1 = (vA3, 0) := by
  unfold ofW; rw [if_neg (by decide), if_neg (by rw [rightC]; simp), if_neg (by rw [plA2]; simp), plA2]; rfl
theorem lnA : vA1.chunks.length = 1 ∧ vA1.others.length = 0 ∧ vA2.chunks.length = 9 ∧ vA2.others.length = 1 ∧ vA3.chunks.length = 4 := by
  unfold vA1 vA2 vA3
  refine ⟨?_, by decide, ?_, by decide, ?_⟩ <;> rw [rowsV_cnt] <;> decide
theorem rowA : rowsV wC pA1 0 3 3 = [(chunkW wC (1 : Nat) (1 : Nat)).1] := by
  have h0 : (List.range 3).filter (fun x => seesB pA1 0 (x : Nat) (0 : Nat)) = [] := by decide
  have h1 : (List.range 3).filter (fun x => seesB pA1 0 (x : Nat) (1 : Nat)) = [1] := by decide
  have h2 : (List.range 3).filter (fun x => seesB pA1 0 (x : Nat) (2 : Nat)) = [] := by decide
  unfold rowsV rowsV rowsV rowsV rowV
  rw [h0, h1, h2]; rfl
theorem xA : (elt .chunk vA1.chunks 0).x = 1 := by
  unfold vA1
  show (elt .chunk (rowsV wC pA1 0 3 3) 0).x = 1
  rw [rowA]
  exact (chunkW_in (x := (1 : Nat)) (y := (1 : Nat)) (rightW_iff.1 rightC) (by decide) (by decide)).2.1

set_option maxRecDepth 100000 in
set_option maxHeartbeats 4000000 in
theorem awake19_api  : Api Try.prog 21 [] (bol true) := by
  have hn := wnew_api 3 1
  rw [newA] at hn
  have hb8 := new_api 8 (by omega) (by omega)
  have hs1 := set_world wA pA1 okW_A okP_A1
  rw [setA1] at hs1
  have hs2 := set_world wB pA2 okW_B okP_A2
  rw [setA2] at hs2
  have ho1 := viewOf_api wC 1 0 okW_C
  rw [ofA1] at ho1
  have ho2 := viewOf_api wC 1 1 okW_C
  rw [ofA2] at ho2
  have ho3 := viewOf_api wC 2 1 okW_C
  rw [ofA3] at ho3
  obtain ⟨l1, l2, l3, l4, l5⟩ := lnA
  have hx := xA
  have e1 : playerV pA1 = .agg [i64 1, i64 10, i64 10, .vec .slot (List.replicate (8 : Int).toNat ⟨0, 0⟩), i64 (-1), .vec .slot [], bol false] := rfl
  have e2 : playerV pA2 = .agg [i64 2, i64 0, i64 0, .vec .slot (List.replicate (8 : Int).toNat ⟨0, 0⟩), i64 (-1), .vec .slot [], bol false] := rfl
  rw [e1] at hs1
  rw [e2] at hs2
  generalize wA = A at *
  generalize wB = B at *
  generalize wC = C at *
  generalize vA1 = v1 at *
  generalize vA2 = v2 at *
  generalize vA3 = v3 at *
  generalize List.replicate (8 : Int).toNat (⟨0, 0⟩ : Slot) = L at *
  have g1 := api_weak hs1 (.cons (Le.refl _) (.cons (Le.agg (.cons (Le.refl _) (.cons (Le.refl _) (.cons (Le.refl _) (.cons (Le.refl _) (.cons (Le.refl _) (.cons (Le.nil _) (.cons (Le.ff rfl) .nil)))))))) .nil))
  have g2 := api_weak hs2 (.cons (Le.refl _) (.cons (Le.agg (.cons (Le.refl _) (.cons (Le.refl _) (.cons (Le.refl _) (.cons (Le.refl _) (.cons (Le.refl _) (.cons (Le.nil _) (.cons (Le.ff rfl) .nil)))))))) .nil))
  clear hs1 hs2
  dsimp only at hn g1 g2 ho1 ho2 ho3
  refine Api.of_fin cfg_ok Try.func21 rfl (nt := 90) rfl rfl ?_
  conv => whnf
  repeat' (first
    | exact trivial
    | ((first | refine i64L ?_ | refine u64L ?_ | refine u8L ?_); (conv => whnf))
    | ((refine ⟨fun hb => ?_, fun hb => ?_⟩) <;> (try simp only [nrm] at hb) <;> (first | (exfalso; omega) | contradiction | exact (tfF hb (by assumption)).elim | exact (ftF hb (by assumption)).elim | (conv => whnf)))
    | ((first | (refine callApi (hn) rfl rfl ?_) | (refine callApiD (hn) rfl rfl ?_) | (refine callApi (hb8) rfl rfl ?_) | (refine callApiD (hb8) rfl rfl ?_) | (refine callApi (g1) rfl rfl ?_) | (refine callApiD (g1) rfl rfl ?_) | (refine callApi (g2) rfl rfl ?_) | (refine callApiD (g2) rfl rfl ?_) | (refine callApi (ho1) rfl rfl ?_) | (refine callApiD (ho1) rfl rfl ?_) | (refine callApi (ho2) rfl rfl ?_) | (refine callApiD (ho2) rfl rfl ?_) | (refine callApi (ho3) rfl rfl ?_) | (refine callApiD (ho3) rfl rfl ?_) | refine Draws.of cfg_ok (by kernel_rfl) ?_ | refine ⟨(by kernel_rfl : confB _ _ _ _ _ = true), ?_⟩ | refine bd1 ?_ | refine bd2 ?_ | refine bdR ?_ | refine bdL ?_ | refine ⟨rfl, ?_⟩ | refine ⟨congrArg (Value.int _) (by omega), ?_⟩); (conv => whnf))
    | (refine And.intro ?_ ?_; rotate_left; (conv => whnf); rotate_right))
  all_goals first | omega | (rw [l5]; rfl) | rfl | trace_state

end Go.Proofs.Ytelgmmcnopjolaa

/- homesteadlaw19.ViewCounts. -/
set_option linter.unusedSimpArgs false
set_option linter.unusedVariables false
namespace Go.Proofs.Ytelgmmcnopjolaa
open Go Go.RowKit Eng

theorem ofW_ok {w : Wld} {id r : Int} (h : (ofW w id r).2 = 0) : 0 ≤ r ∧ r ≤ 3 ∧ RW w ∧ (playerW w id).2 = true ∧ ofW w id r = (⟨w.tick, (playerW w id).1, rowsV w (playerW w id).1 r w.size.toNat w.size.toNat, othV w.players (playerW w id).1 r id w.players.length⟩, 0) := by
  unfold ofW at h ⊢
  by_cases h1 : r < 0 ∨ 3 < r
  · rw [if_pos h1] at h; simp at h
  · rw [if_neg h1] at h ⊢
    by_cases h2 : rightW w = false
    · rw [if_pos h2] at h; simp at h
    · rw [if_neg h2] at h ⊢
      rw [Bool.not_eq_false] at h2
      by_cases h3 : (playerW w id).2 = false
      · rw [if_pos h3] at h; simp at h
      · rw [if_neg h3]; rw [Bool.not_eq_false] at h3; exact ⟨by omega, by omega, rightW_iff.1 h2, h3, rfl⟩
theorem ofW_num (w : Wld) (id r : Int) : 0 ≤ (ofW w id r).2 ∧ (ofW w id r).2 ≤ 113 := by
  unfold ofW; repeat' split
  all_goals (simp only []; omega)

def sideI (w : Wld) (n a : Int) : Int := min (a / 8 + n) (w.size - 1) - max (a / 8 - n) 0 + 1
set_option maxRecDepth 100000 in
set_option maxHeartbeats 4000000 in
theorem side_ev (w : Wld) (n a : Int) (hn : 0 ≤ n ∧ n ≤ 3) (ha : 0 ≤ a ∧ a ≤ 1000) (hs : 1 ≤ w.size ∧ w.size ≤ 16) : Ev1 Try.prog 28 [i64 a, .ptr 0 0, .ptr 2 0] [(0, .box [i64 n]), (2, .box (wldC w))] (i64 (sideI w n a)) [(0, .box [i64 n]), (2, .box (wldC w))] := by
  refine Ev1.of_fin cfg_ok Try.func28 rfl (nt := 17) rfl rfl rfl ?_
  conv => whnf
  repeat' (first
    | exact trivial
    | ((first | refine i64L ?_ | refine u64L ?_ | refine u8L ?_); (conv => whnf))
    | ((refine ⟨fun hb => ?_, fun hb => ?_⟩) <;> (try simp only [nrm] at hb) <;> (first | (exfalso; omega) | contradiction | exact (tfF hb (by assumption)).elim | exact (ftF hb (by assumption)).elim | (conv => whnf)))
    | ((first | refine Draws.of cfg_ok (by kernel_rfl) ?_ | refine ⟨(by kernel_rfl : confB _ _ _ _ _ = true), ?_⟩ | refine bd1 ?_ | refine bd2 ?_ | refine bdR ?_ | refine bdL ?_ | refine ⟨rfl, ?_⟩ | refine ⟨congrArg (Value.int _) (by omega), ?_⟩); (conv => whnf))
    | (refine And.intro ?_ ?_; rotate_left; (conv => whnf); rotate_right))
  all_goals first | rfl | omega | (refine congrArg (Value.int .i64) ?_; unfold sideI; omega) | trace_state

def cntO (l : List Player) (p : Player) (r id : Int) (k : Nat) : Nat := (othV l p r id k).length
set_option maxRecDepth 100000 in
set_option maxHeartbeats 4000000 in
theorem countsV_api (w : Wld) (id b : Int) (hw : OkW w) (hb0 : 0 ≤ b) (hb1 : b ≤ 255) : Api Try.prog 8 [wldV w, i64 id, .lit (.int .u8 b)] (bol true) := by
  have hgr := greatW_api w hw
  have haw := awake19_api
  have hnp := hw.np
  cases hG : greatW w with
  | true =>
    rw [hG] at hgr
    refine Api.of_fin cfg_ok Try.func8 rfl (nt := 86) rfl rfl ?_
    conv => whnf
    repeat' (first
      | exact trivial
      | ((first | refine i64L ?_ | refine u64L ?_ | refine u8L ?_); (conv => whnf))
      | ((refine ⟨fun hb => ?_, fun hb => ?_⟩) <;> (try simp only [nrm] at hb) <;> (first | (exfalso; omega) | contradiction | exact (tfF hb (by assumption)).elim | exact (ftF hb (by assumption)).elim | (conv => whnf)))
      | ((first | (refine callApi (hgr) rfl rfl ?_) | (refine callApiD (hgr) rfl rfl ?_) | (refine callApi (haw) rfl rfl ?_) | (refine callApiD (haw) rfl rfl ?_) | refine Draws.of cfg_ok (by kernel_rfl) ?_ | refine ⟨(by kernel_rfl : confB _ _ _ _ _ = true), ?_⟩ | refine bd1 ?_ | refine bd2 ?_ | refine bdR ?_ | refine bdL ?_ | refine ⟨rfl, ?_⟩ | refine ⟨congrArg (Value.int _) (by omega), ?_⟩); (conv => whnf))
      | (refine And.intro ?_ ?_; rotate_left; (conv => whnf); rotate_right))
  | false =>
    rw [hG] at hgr
    have ho := viewOf_api w id (b % 4) hw
    have hnum := ofW_num w id (b % 4)
    by_cases he : (ofW w id (b % 4)).2 = 0
    · obtain ⟨hr0, hr3, hRW, hP, hof⟩ := ofW_ok he
      obtain ⟨hmem, hid⟩ := player_mem hP
      have hsz := hRW.size
      have hpb := within_bd hRW hmem
      rw [hof] at ho
      have hc := rowsV_cnt w (playerW w id).1 (b % 4) w.size.toNat w.size.toNat
      have hcx := cnt_side (a := (playerW w id).1.x / 8) (r := (b % 4)) (S := w.size.toNat) (by omega) (by omega) (by have := (within_iff hRW).1 (hRW.players _ hmem).2; omega)
      have hcy := cnt_side (a := (playerW w id).1.y / 8) (r := (b % 4)) (S := w.size.toNat) (by omega) (by omega) (by have := (within_iff hRW).1 (hRW.players _ hmem).2; omega)
      have sx := side_ev w (b % 4) (playerW w id).1.x (by omega) (by omega) (by omega)
      have sy := side_ev w (b % 4) (playerW w id).1.y (by omega) (by omega) (by omega)
      have hlen : ((rowsV w (playerW w id).1 (b % 4) w.size.toNat w.size.toNat).length : Int) = sideI w (b % 4) (playerW w id).1.x * sideI w (b % 4) (playerW w id).1.y := by
        rw [hc, Int.natCast_mul, hcx, hcy]
        unfold sideI
        rw [Int.toNat_of_nonneg (by omega)]
      have hbx : 0 ≤ sideI w (b % 4) (playerW w id).1.x ∧ sideI w (b % 4) (playerW w id).1.x ≤ 16 := by unfold sideI; omega
      have hby : 0 ≤ sideI w (b % 4) (playerW w id).1.y ∧ sideI w (b % 4) (playerW w id).1.y ≤ 16 := by unfold sideI; omega
      have hse : ∀ k, k < w.players.length → seesW w id (b % 4) ((elt .player w.players k).x / 8) ((elt .player w.players k).y / 8) = seesB (playerW w id).1 (b % 4) ((elt .player w.players k).x / 8) ((elt .player w.players k).y / 8) := by
        intro k hk
        have hm := elt_mem (t := .player) hk
        have hwi := (within_iff hRW).1 (hRW.players _ hm).2
        unfold seesW
        rw [hP, decide_eq_true (by omega)]; rfl
      have hO : ∃ O : Nat → Nat, O 0 = 0 ∧ (∀ k, k < w.players.length → O (k + 1) = O k + (if othB (playerW w id).1 (b % 4) id (elt .player w.players k) = true then 1 else 0)) ∧ (∀ k, O k ≤ w.players.length) ∧ (othV w.players (playerW w id).1 (b % 4) id w.players.length).length = O w.players.length :=
        ⟨cntO w.players (playerW w id).1 (b % 4) id, rfl, fun k hk => by unfold cntO; rw [othV_succ hk, List.length_append]; split <;> rfl, fun k => othV_len w.players _ (b % 4) id k, rfl⟩
      obtain ⟨O, o0, o1, o2, o3⟩ := hO
      generalize sideI w (b % 4) (playerW w id).1.x = X at *
      generalize sideI w (b % 4) (playerW w id).1.y = Y at *
      have hXY : X * Y ≤ 16 * 16 := Int.mul_le_mul (by omega) (by omega) (by omega) (by omega)
      have hXY0 : 0 ≤ X * Y := Int.mul_nonneg (by omega) (by omega)
      generalize (playerW w id).1 = p at *
      generalize rowsV w p (b % 4) w.size.toNat w.size.toNat = R at *
      generalize othV w.players p (b % 4) id w.players.length = Q at *
      clear hof hc hcx hcy he hnum hmem
      refine Api.of_fin cfg_ok Try.func8 rfl (nt := 86) rfl rfl ?_
      conv => whnf
      repeat' (first
        | exact trivial
        | ((first | refine i64L ?_ | refine u64L ?_ | refine u8L ?_); (conv => whnf))
        | ((refine ⟨fun hb => ?_, fun hb => ?_⟩) <;> (try simp only [nrm] at hb) <;> (first | (exfalso; omega) | contradiction | exact (tfF hb (by assumption)).elim | exact (ftF hb (by assumption)).elim | (conv => whnf)))
        | ((first | (refine callApi (hgr) rfl rfl ?_) | (refine callApiD (hgr) rfl rfl ?_) | (refine callApi (haw) rfl rfl ?_) | (refine callApiD (haw) rfl rfl ?_) | (refine callApi (ho) rfl rfl ?_) | (refine callApiD (ho) rfl rfl ?_) | refine Draws.of cfg_ok (by kernel_rfl) ?_ | refine ⟨(by kernel_rfl : confB _ _ _ _ _ = true), ?_⟩ | refine bd1 ?_ | refine bd2 ?_ | refine bdR ?_ | refine bdL ?_ | refine ⟨rfl, ?_⟩ | refine ⟨congrArg (Value.int _) (by omega), ?_⟩); (conv => whnf))
        | (refine And.intro ?_ ?_; rotate_left; (conv => whnf); rotate_right))
      refine Runs.loopQ cfg_ok (σ := Nat) [1, 3, 7, 8, 10, 11, 32, 33, 34] (fun k => [i64 id, .ptr 6 0, .ptr 14 0, .ptr 16 0, .clo (.func 28) [] [.ptr 14 0, .ptr 6 0], i64 (O k), .vec .player w.players, i64 w.players.length, i64 k])
        (fun k => [(6, .box (wldC w)), (14, .box [i64 (b % 4)]), (16, .box [i64 w.tick, i64 p.id, i64 p.x, i64 p.y, .vec .slot p.bag, i64 p.wth, .vec .slot p.offer, bol p.agrees, .vec .chunk R, .vec .seen Q])])
        (fun k => k ≤ w.players.length) (fun k => w.players.length - k) 0 (by omega) ?_ ?_
      · conv => whnf
        repeat' (first
          | exact trivial
          | ((first | refine i64L ?_ | refine u64L ?_ | refine u8L ?_); (conv => whnf))
          | ((refine ⟨fun hb => ?_, fun hb => ?_⟩) <;> (try simp only [nrm] at hb) <;> (first | (exfalso; omega) | contradiction | exact (tfF hb (by assumption)).elim | exact (ftF hb (by assumption)).elim | (conv => whnf)))
          | ((first | refine Draws.of cfg_ok (by kernel_rfl) ?_ | refine ⟨(by kernel_rfl : confB _ _ _ _ _ = true), ?_⟩ | refine bd1 ?_ | refine bd2 ?_ | refine bdR ?_ | refine bdL ?_ | refine ⟨rfl, ?_⟩ | refine ⟨congrArg (Value.int _) (by omega), ?_⟩); (conv => whnf))
          | (refine And.intro ?_ ?_; rotate_left; (conv => whnf); rotate_right))
        all_goals first | rfl | omega | (rw [o0]; rfl) | trace_state
      · intro k hk N hN hE hT
        have hok := o2 k
        by_cases hlk : k < w.players.length
        · have hqb := within_bd hRW (elt_mem (t := .player) hlk)
          have hcl := seesW_api w id (b % 4) ((elt .player w.players k).x / 8) ((elt .player w.players k).y / 8) hw
          rw [hse k hlk] at hcl
          have hqc : 0 ≤ (elt .player w.players ((k : Nat) : Int).toNat).x ∧ (elt .player w.players ((k : Nat) : Int).toNat).x < 128 ∧ 0 ≤ (elt .player w.players ((k : Nat) : Int).toNat).y ∧ (elt .player w.players ((k : Nat) : Int).toNat).y < 128 := hqb
          have hsu := o1 k hlk
          have hok1 := o2 (k + 1)
          by_cases hid2 : (elt .player w.players k).id = id
          · rw [if_neg (by unfold othB; rw [decide_eq_true hid2]; simp)] at hsu
            conv => whnf
            repeat' (first
              | exact trivial
              | ((first | refine i64L ?_ | refine u64L ?_ | refine u8L ?_); (conv => whnf))
              | ((refine ⟨fun hb => ?_, fun hb => ?_⟩) <;> (try simp only [nrm] at hb) <;> (first | (exfalso; omega) | contradiction | exact (tfF hb (by assumption)).elim | exact (ftF hb (by assumption)).elim | (conv => whnf)))
              | ((first | (refine callApi (hcl) rfl rfl ?_) | (refine callApiD (hcl) rfl rfl ?_) | refine Draws.of cfg_ok (by kernel_rfl) ?_ | refine ⟨(by kernel_rfl : confB _ _ _ _ _ = true), ?_⟩ | refine bd1 ?_ | refine bd2 ?_ | refine bdR ?_ | refine bdL ?_ | refine ⟨rfl, ?_⟩ | refine ⟨congrArg (Value.int _) (by omega), ?_⟩); (conv => whnf))
              | (refine And.intro ?_ ?_; rotate_left; (conv => whnf); rotate_right))
            refine hN _ _ ?_
            conv => whnf
            refine .to (k + 1) (by omega) (by omega) ?_
            conv => whnf
            repeat' (first
              | exact trivial
              | ((first | refine i64L ?_ | refine u64L ?_ | refine u8L ?_); (conv => whnf))
              | ((refine ⟨fun hb => ?_, fun hb => ?_⟩) <;> (try simp only [nrm] at hb) <;> (first | (exfalso; omega) | contradiction | exact (tfF hb (by assumption)).elim | exact (ftF hb (by assumption)).elim | (conv => whnf)))
              | ((first | refine Draws.of cfg_ok (by kernel_rfl) ?_ | refine ⟨(by kernel_rfl : confB _ _ _ _ _ = true), ?_⟩ | refine bd1 ?_ | refine bd2 ?_ | refine bdR ?_ | refine bdL ?_ | refine ⟨rfl, ?_⟩ | refine ⟨congrArg (Value.int _) (by omega), ?_⟩); (conv => whnf))
              | (refine And.intro ?_ ?_; rotate_left; (conv => whnf); rotate_right))
            all_goals first | rfl | omega | (refine congrArg (Value.int .i64) ?_; omega) | trace_state
          · cases hq : seesB p (b % 4) ((elt .player w.players k).x / 8) ((elt .player w.players k).y / 8) with
            | false =>
              rw [if_neg (by unfold othB; rw [hq, Bool.and_false]; simp)] at hsu
              rw [hq] at hcl
              conv => whnf
              repeat' (first
                | exact trivial
                | ((first | refine i64L ?_ | refine u64L ?_ | refine u8L ?_); (conv => whnf))
                | ((refine ⟨fun hb => ?_, fun hb => ?_⟩) <;> (try simp only [nrm] at hb) <;> (first | (exfalso; omega) | contradiction | exact (tfF hb (by assumption)).elim | exact (ftF hb (by assumption)).elim | (conv => whnf)))
                | ((first | (refine callApi (hcl) rfl rfl ?_) | (refine callApiD (hcl) rfl rfl ?_) | refine Draws.of cfg_ok (by kernel_rfl) ?_ | refine ⟨(by kernel_rfl : confB _ _ _ _ _ = true), ?_⟩ | refine bd1 ?_ | refine bd2 ?_ | refine bdR ?_ | refine bdL ?_ | refine ⟨rfl, ?_⟩ | refine ⟨congrArg (Value.int _) (by omega), ?_⟩); (conv => whnf))
                | (refine And.intro ?_ ?_; rotate_left; (conv => whnf); rotate_right))
              refine hN _ _ ?_
              conv => whnf
              refine .to (k + 1) (by omega) (by omega) ?_
              conv => whnf
              repeat' (first
                | exact trivial
                | ((first | refine i64L ?_ | refine u64L ?_ | refine u8L ?_); (conv => whnf))
                | ((refine ⟨fun hb => ?_, fun hb => ?_⟩) <;> (try simp only [nrm] at hb) <;> (first | (exfalso; omega) | contradiction | exact (tfF hb (by assumption)).elim | exact (ftF hb (by assumption)).elim | (conv => whnf)))
                | ((first | refine Draws.of cfg_ok (by kernel_rfl) ?_ | refine ⟨(by kernel_rfl : confB _ _ _ _ _ = true), ?_⟩ | refine bd1 ?_ | refine bd2 ?_ | refine bdR ?_ | refine bdL ?_ | refine ⟨rfl, ?_⟩ | refine ⟨congrArg (Value.int _) (by omega), ?_⟩); (conv => whnf))
                | (refine And.intro ?_ ?_; rotate_left; (conv => whnf); rotate_right))
              all_goals first | rfl | omega | (refine congrArg (Value.int .i64) ?_; omega) | trace_state
            | true =>
              rw [if_pos (by unfold othB; rw [hq, decide_eq_false hid2]; rfl)] at hsu
              rw [hq] at hcl
              conv => whnf
              repeat' (first
                | exact trivial
                | ((first | refine i64L ?_ | refine u64L ?_ | refine u8L ?_); (conv => whnf))
                | ((refine ⟨fun hb => ?_, fun hb => ?_⟩) <;> (try simp only [nrm] at hb) <;> (first | (exfalso; omega) | contradiction | exact (tfF hb (by assumption)).elim | exact (ftF hb (by assumption)).elim | (conv => whnf)))
                | ((first | (refine callApi (hcl) rfl rfl ?_) | (refine callApiD (hcl) rfl rfl ?_) | refine Draws.of cfg_ok (by kernel_rfl) ?_ | refine ⟨(by kernel_rfl : confB _ _ _ _ _ = true), ?_⟩ | refine bd1 ?_ | refine bd2 ?_ | refine bdR ?_ | refine bdL ?_ | refine ⟨rfl, ?_⟩ | refine ⟨congrArg (Value.int _) (by omega), ?_⟩); (conv => whnf))
                | (refine And.intro ?_ ?_; rotate_left; (conv => whnf); rotate_right))
              refine hN _ _ ?_
              conv => whnf
              refine .to (k + 1) (by omega) (by omega) ?_
              conv => whnf
              repeat' (first
                | exact trivial
                | ((first | refine i64L ?_ | refine u64L ?_ | refine u8L ?_); (conv => whnf))
                | ((refine ⟨fun hb => ?_, fun hb => ?_⟩) <;> (try simp only [nrm] at hb) <;> (first | (exfalso; omega) | contradiction | exact (tfF hb (by assumption)).elim | exact (ftF hb (by assumption)).elim | (conv => whnf)))
                | ((first | refine Draws.of cfg_ok (by kernel_rfl) ?_ | refine ⟨(by kernel_rfl : confB _ _ _ _ _ = true), ?_⟩ | refine bd1 ?_ | refine bd2 ?_ | refine bdR ?_ | refine bdL ?_ | refine ⟨rfl, ?_⟩ | refine ⟨congrArg (Value.int _) (by omega), ?_⟩); (conv => whnf))
                | (refine And.intro ?_ ?_; rotate_left; (conv => whnf); rotate_right))
              all_goals first | rfl | omega | (refine congrArg (Value.int .i64) ?_; omega) | trace_state
        · obtain rfl : k = w.players.length := by omega
          conv => whnf
          repeat' (first
            | exact trivial
            | ((first | refine i64L ?_ | refine u64L ?_ | refine u8L ?_); (conv => whnf))
            | ((refine ⟨fun hb => ?_, fun hb => ?_⟩) <;> (try simp only [nrm] at hb) <;> (first | (exfalso; omega) | contradiction | exact (tfF hb (by assumption)).elim | exact (ftF hb (by assumption)).elim | (conv => whnf)))
            | ((first | refine Draws.of cfg_ok (by kernel_rfl) ?_ | refine ⟨(by kernel_rfl : confB _ _ _ _ _ = true), ?_⟩ | refine bd1 ?_ | refine bd2 ?_ | refine bdR ?_ | refine bdL ?_ | refine ⟨rfl, ?_⟩ | refine ⟨congrArg (Value.int _) (by omega), ?_⟩); (conv => whnf))
            | (refine And.intro ?_ ?_; rotate_left; (conv => whnf); rotate_right))
          refine hE _ _ _ ?_
          conv => whnf
          repeat' (first
            | exact trivial
            | ((first | refine i64L ?_ | refine u64L ?_ | refine u8L ?_); (conv => whnf))
            | ((refine ⟨fun hb => ?_, fun hb => ?_⟩) <;> (try simp only [nrm] at hb) <;> (first | (exfalso; omega) | contradiction | exact (tfF hb (by assumption)).elim | exact (ftF hb (by assumption)).elim | (conv => whnf)))
            | ((first | (refine callRd (sx) [(0, 14), (2, 6)] rfl ?_ ?_ rfl ?_) | (refine callRdD (sx) [(0, 14), (2, 6)] rfl ?_ ?_ rfl ?_)); rotate_left; rotate_left; (conv => whnf); rotate_left; (repeat' (first | exact trivial | (refine ⟨rfl, ?_⟩))); kernel_rfl)
            | ((first | (refine callRd (sy) [(0, 14), (2, 6)] rfl ?_ ?_ rfl ?_) | (refine callRdD (sy) [(0, 14), (2, 6)] rfl ?_ ?_ rfl ?_)); rotate_left; rotate_left; (conv => whnf); rotate_left; (repeat' (first | exact trivial | (refine ⟨rfl, ?_⟩))); kernel_rfl)
            | ((first | (refine callApi (haw) rfl rfl ?_) | (refine callApiD (haw) rfl rfl ?_) | refine Draws.of cfg_ok (by kernel_rfl) ?_ | refine ⟨(by kernel_rfl : confB _ _ _ _ _ = true), ?_⟩ | refine bd1 ?_ | refine bd2 ?_ | refine bdR ?_ | refine bdL ?_ | refine ⟨rfl, ?_⟩ | refine ⟨congrArg (Value.int _) (by omega), ?_⟩); (conv => whnf))
            | (refine And.intro ?_ ?_; rotate_left; (conv => whnf); rotate_right))
          all_goals first | rfl | omega | trace_state
    · generalize ofW w id (b % 4) = V at *
      refine Api.of_fin cfg_ok Try.func8 rfl (nt := 86) rfl rfl ?_
      conv => whnf
      repeat' (first
        | exact trivial
        | ((first | refine i64L ?_ | refine u64L ?_ | refine u8L ?_); (conv => whnf))
        | ((refine ⟨fun hb => ?_, fun hb => ?_⟩) <;> (try simp only [nrm] at hb) <;> (first | (exfalso; omega) | contradiction | exact (tfF hb (by assumption)).elim | exact (ftF hb (by assumption)).elim | (conv => whnf)))
        | ((first | (refine callApi (hgr) rfl rfl ?_) | (refine callApiD (hgr) rfl rfl ?_) | (refine callApi (haw) rfl rfl ?_) | (refine callApiD (haw) rfl rfl ?_) | (refine callApi (ho) rfl rfl ?_) | (refine callApiD (ho) rfl rfl ?_) | refine Draws.of cfg_ok (by kernel_rfl) ?_ | refine ⟨(by kernel_rfl : confB _ _ _ _ _ = true), ?_⟩ | refine bd1 ?_ | refine bd2 ?_ | refine bdR ?_ | refine bdL ?_ | refine ⟨rfl, ?_⟩ | refine ⟨congrArg (Value.int _) (by omega), ?_⟩); (conv => whnf))
        | (refine And.intro ?_ ?_; rotate_left; (conv => whnf); rotate_right))
      all_goals first | omega | rfl | trace_state

end Go.Proofs.Ytelgmmcnopjolaa
