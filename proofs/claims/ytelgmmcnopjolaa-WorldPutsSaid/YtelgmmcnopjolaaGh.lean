/- Closures as results; homesteadlaw13.WorldPuts. -/
import Derived.Test.YtelgmmcnopjolaaGg
import Derived.Test.YtelgmmcnopjolaaGc
/- A contract whose result holds variables (a closure and what it captures): own blocks are given new numbers at the end. -/
set_option linter.unusedSimpArgs false
set_option linter.unusedVariables false
namespace Eng
open Go Go.RowKit

def keepD (l : List (Nat × Nat)) : Mem → Mem
  | [] => []
  | (k, b) :: r => match hasD l k with
    | true => (k, b) :: keepD l r
    | false => keepD l r
theorem keepD_get {l : List (Nat × Nat)} : ∀ {m : Mem} {k : Nat} {b : Blk}, mget (keepD l m) k = some b → mget m k = some b
  | [], k, b, h => by simp [keepD, mget] at h
  | (i, c) :: r, k, b, h => by
    simp only [keepD] at h
    simp only [mget]
    cases hd : hasD l i with
    | true =>
      rw [hd] at h
      simp only [mget] at h
      cases hik : Nat.beq i k with
      | true => rw [hik] at h; exact h
      | false => rw [hik] at h; exact keepD_get h
    | false =>
      rw [hd] at h
      simp only at h
      cases hik : Nat.beq i k with
      | true =>
        have := keepD_get h
        have hlk : ∀ {r : Mem}, hasD l k = false → mget (keepD l r) k = none := by
          intro r hf
          induction r with
          | nil => rfl
          | cons p r ih =>
            obtain ⟨j, e⟩ := p
            simp only [keepD]
            cases hj : hasD l j with
            | false => exact ih
            | true =>
              simp only [mget]
              cases hjk : Nat.beq j k with
              | false => exact ih
              | true => rw [nbt.1 hjk, hf] at hj; cases hj
        rw [nbt.1 hik] at hd
        rw [hlk hd] at h; cases h
      | false => exact keepD_get h
def odd1 (n : Nat) : Bool := Nat.beq (n % 2) 1
def fitT (base : Nat) : List (Nat × Nat) → Bool
  | [] => true
  | (i, a) :: r => match Nat.beq i a with
    | true => match Nat.blt a base with
      | true => fitT base r
      | false => false
    | false => match Nat.ble base a with
      | true => match odd1 a with
        | true => fitT base r
        | false => false
      | false => false
theorem fitT_ok {base : Nat} : ∀ {l : List (Nat × Nat)}, fitT base l = true → ∀ k, hasD l k = true → (asc l k = k ∧ k < base) ∨ (base ≤ asc l k ∧ asc l k % 2 = 1)
  | [], _, k, hk => by cases hk
  | (i, a) :: r, h, k, hk => by
    simp only [fitT] at h
    simp only [hasD] at hk
    simp only [asc]
    cases hik : Nat.beq i k with
    | true =>
      have e := nbt.1 hik
      subst e
      simp only
      cases hia : Nat.beq i a with
      | true =>
        rw [hia] at h
        simp only at h
        cases hb : Nat.blt a base with
        | true => exact .inl ⟨(nbt.1 hia).symm, by rw [nbt.1 hia]; exact Nat.le_of_ble_eq_true hb⟩
        | false => rw [hb] at h; cases h
      | false =>
        rw [hia] at h
        simp only at h
        cases hb : Nat.ble base a with
        | false => rw [hb] at h; cases h
        | true =>
          rw [hb] at h
          simp only at h
          cases ho : odd1 a with
          | false => rw [ho] at h; cases h
          | true => exact .inr ⟨Nat.le_of_ble_eq_true hb, nbt.1 ho⟩
    | false =>
      rw [hik] at hk
      simp only at hk ⊢
      refine fitT_ok (l := r) ?_ k hk
      cases hia : Nat.beq i a with
      | true =>
        rw [hia] at h
        simp only at h
        cases hb : Nat.blt a base with
        | true => rw [hb] at h; exact h
        | false => rw [hb] at h; cases h
      | false =>
        rw [hia] at h
        simp only at h
        cases hb : Nat.ble base a with
        | false => rw [hb] at h; cases h
        | true =>
          rw [hb] at h
          simp only at h
          cases ho : odd1 a with
          | false => rw [ho] at h; cases h
          | true => rw [ho] at h; exact h
def renC (base : Nat) (l : List (Nat × Nat)) (m : Mem) (v : AV) : Bool :=
  match injB l with
  | false => false
  | true => match fitT base l with
    | false => false
    | true => match memOk (hasD l) (hasD l) m with
      | false => false
      | true => namB (hasD l) v

theorem mget_rdR {l : List (Nat × Nat)} (hi : injB l = true) : ∀ {m : Mem}, (∀ k, hasK m k = true → hasD l k = true) → ∀ {j : Nat} {b : Blk}, mget (rdR (asc l) m) j = some b → ∃ k c, asb l j = some k ∧ mget m k = some c ∧ b = renB (asc l) c
  | [], _, j, b, h => by simp [rdR, mget] at h
  | (k, c) :: r, hd, j, b, h => by
    simp only [rdR, mget] at h
    have hk : hasD l k = true := hd k (by simp [hasK, Nat.beq_refl])
    cases hkj : Nat.beq (asc l k) j with
    | true =>
      rw [hkj] at h
      cases h
      have e := nbt.1 hkj
      exact ⟨k, c, by rw [← e]; exact asb_asc hi hk, by simp [mget, Nat.beq_refl], rfl⟩
    | false =>
      rw [hkj] at h
      obtain ⟨k2, c2, h1, h2, h3⟩ := mget_rdR hi (m := r) (fun i hh => hd i (by simp only [hasK]; split <;> simp_all)) h
      refine ⟨k2, c2, h1, ?_, h3⟩
      simp only [mget]
      cases hkk : Nat.beq k k2 with
      | false => exact h2
      | true =>
        have e := nbt.1 hkk
        subst e
        have := asb_some hi h1
        rw [this.2, Nat.beq_refl] at hkj
        cases hkj
theorem mget_rdR2 {l : List (Nat × Nat)} (hi : injB l = true) : ∀ {m : Mem}, (∀ k, hasK m k = true → hasD l k = true) → ∀ {k : Nat} {c : Blk}, mget m k = some c → mget (rdR (asc l) m) (asc l k) = some (renB (asc l) c)
  | [], _, k, c, h => by simp [mget] at h
  | (i, e) :: r, hd, k, c, h => by
    simp only [rdR, mget] at h ⊢
    have hki : hasD l i = true := hd i (by simp [hasK, Nat.beq_refl])
    cases hik : Nat.beq i k with
    | true =>
      rw [hik] at h
      cases h
      rw [nbt.1 hik, Nat.beq_refl]
    | false =>
      rw [hik] at h
      simp only at h
      have hd2 : ∀ k, hasK r k = true → hasD l k = true := fun i hh => hd i (by simp only [hasK]; split <;> simp_all)
      have hk : hasD l k = true := hd2 k (by rw [hasK_some, h]; rfl)
      have hne : Nat.beq (asc l i) (asc l k) = false := nbf.2 fun e => by
        have h1 := asb_asc hi hki
        rw [e, asb_asc hi hk] at h1
        cases h1
        rw [Nat.beq_refl] at hik; cases hik
      rw [hne]
      exact mget_rdR2 hi hd2 h

/-- All numbers turned at once. -/
theorem ren_all {base lim : Nat} {l : List (Nat × Nat)} {m : Mem} {v : AV} (hok : renC base l m v = true) {w : World} {g : G} {x : Value} (hm : MSim w g lim (mget m)) (hr : Rep w g lim v x) (hlim : base ≤ lim) :
    ∃ g', MSim w g' base (mget (rdR (asc l) m)) ∧ LeG base g g' ∧ Rep w g' base (renV (asc l) v) x := by
  unfold renC at hok
  split at hok
  · cases hok
  rename_i hinj
  split at hok
  · cases hok
  rename_i hfit
  split at hok
  · cases hok
  rename_i hmem
  have hd : ∀ k, hasK m k = true → hasD l k = true := fun k hk => by
    rw [hasK_some] at hk
    obtain ⟨b, hb⟩ := Option.isSome_iff_exists.1 hk
    exact (memOk_get hmem hb).1
  let σ : Nat → Nat := fun j => (asb l j).getD 0
  have hσ : ∀ k, hasD l k = true → σ (asc l k) = k := fun k hk => by simp only [σ]; rw [asb_asc hinj hk]; rfl
  let g' : G := { ro := g.ro, no := g.no, al := fun j => ∃ k, asb l j = some k ∧ g.al k, be := fun j => g.be (σ j), sz := fun j => g.sz (σ j) }
  have hal : ∀ {j}, g'.al j → g.al (σ j) ∧ asc l (σ j) = j ∧ hasD l (σ j) = true := fun {j} ⟨k, h1, h2⟩ => by
    obtain ⟨q1, q2⟩ := asb_some hinj h1
    have e : σ j = k := by simp only [σ, h1]; rfl
    rw [e]; exact ⟨h2, q2, q1⟩
  have hpk : ∀ k, hasD l k = true → (asc l k < base ∨ asc l k % 2 = 1) ∧ (g'.al (asc l k) → g.al k ∧ g'.be (asc l k) = g.be k ∧ g'.sz (asc l k) = g.sz k) := fun k hk => by
    refine ⟨?_, fun ha => ?_⟩
    · rcases fitT_ok hfit k hk with ⟨h1, h2⟩ | ⟨_, h2⟩
      · exact .inl (by rw [h1]; exact h2)
      · exact .inr h2
    · have h3 := (hal ha).1
      rw [hσ k hk] at h3
      exact ⟨h3, by simp only [g']; rw [hσ k hk], by simp only [g']; rw [hσ k hk]⟩
  have hkw : Keeps w w g g' := ⟨fun _ h => h, fun _ _ => rfl⟩
  refine ⟨g', ⟨fun j => ⟨fun ha => ?_, fun hs => ?_⟩, fun j ha => ?_, fun j ha hz => hm.nro _ (hal ha).1 hz, fun i j hi hj zi zj e => ?_, fun j b hb => ?_, hm.rolt, fun b hb => ⟨(hm.nof b hb).1, (hm.nof b hb).2.1, fun k ha hz => (hm.nof b hb).2.2 _ (hal ha).1 hz⟩⟩, ⟨fun _ h => h, fun _ h => h, fun k hk ha => ?_⟩, hr.ren hkw hpk hok⟩
  · obtain ⟨h1, h2, h3⟩ := hal ha
    obtain ⟨c, hc⟩ := Option.isSome_iff_exists.1 ((hm.al _).1 h1)
    have := mget_rdR2 hinj hd hc
    rw [h2] at this
    rw [this]; rfl
  · obtain ⟨b, hb⟩ := Option.isSome_iff_exists.1 hs
    obtain ⟨k, c, h1, h2, _⟩ := mget_rdR hinj hd hb
    exact ⟨k, h1, (hm.al k).2 (by rw [h2]; rfl)⟩
  · obtain ⟨h1, h2, h3⟩ := hal ha
    have := (hpk _ h3).1
    rw [h2] at this; exact this
  · have h1 := hal hi
    have h2 := hal hj
    have := hm.inj _ _ h1.1 h2.1 zi zj e
    rw [← h1.2.1, ← h2.2.1, this]
  · obtain ⟨k, c, h1, h2, rfl⟩ := mget_rdR hinj hd hb
    have e : σ j = k := by simp only [σ, h1]; rfl
    have h3 := (hm.blk k c h2).ren hkw hpk (fun _ => rfl) (fun cs hcs => (memOk_get hmem h2).2 cs hcs)
    simp only [g', e]; exact h3
  · obtain ⟨h1, h2, h3⟩ := hal ha
    rcases fitT_ok hfit _ h3 with ⟨h4, _⟩ | ⟨h4, _⟩
    · rw [h2] at h4
      simp only [g']
      rw [← h4] at h1 ⊢
      exact ⟨h1, rfl, rfl⟩
    · omega

/-- What stands behind a function's body: the numbers are turned by 'l'; then as 'endF'. -/
def endR (P : Program) (lim : Nat) (l : List (Nat × Nat)) (rs : List ResultVar) (v : AV) (m1 : Mem) : Post := fun e f m => match e with
  | .normal => resK P f m rs fun v' => renC lim l (keepD l m) v' = true ∧ finK lim [renV (asc l) v'] (rdR (asc l) (keepD l m)) [v] m1
  | .ret => resK P f m rs fun v' => renC lim l (keepD l m) v' = true ∧ finK lim [renV (asc l) v'] (rdR (asc l) (keepD l m)) [v] m1
  | .exit _ => False

theorem endR_ok {P : Program} {lim L' : Nat} {l : List (Nat × Nat)} {fn : Func} {f : List AV} {m : Mem} {v : AV} {m1 : Mem} (hL : lim ≤ L')
    (h : resK P f m fn.results.toList fun v' => renC lim l (keepD l m) v' = true ∧ finK lim [renV (asc l) v'] (rdR (asc l) (keepD l m)) [v] m1) {w : World} {g : G} {a : Act} (hs : Sim w g L' f (mget m) a) :
    ∃ x g', (results fn a.tmps).run P w = .ok x w ∧ Rep w g' lim v x ∧ MSim w g' lim (mget m1) ∧ LeG lim g g' := by
  obtain ⟨v', x, ⟨h0, h⟩, e1, e2⟩ := resK_ok h hs
  obtain ⟨g1, a1, a2, a3⟩ := hs.me.only (m1 := keepD l m) fun k b hb => keepD_get hb
  obtain ⟨g2, b1, b2, b3⟩ := ren_all h0 a1 (a3 _ _ e2) hL
  obtain ⟨g', h1, h2, h3⟩ := finK_ok h b1 #[x] ⟨rfl, fun i c y hc hy => by
    cases i with
    | zero => simp at hc hy; subst hc; subst hy; exact b3
    | succ i => simp at hc⟩
  exact ⟨x, g', e1, h3.2 0 v x (by simp) (by simp), h1, ((a2 lim).trans b2).trans h2⟩

theorem calls_of_evR {P : Program} {C : Cfg2} (hC : Cfg2Ok P C) {fid : FuncId} {fn : Func} {c : Code} (hf : P.funcs[fid]? = some fn) (hb : fn.body = some c) {base nt : Nat} {l : List (Nat × Nat)} {args : List AV} {m m1 : Mem} {v : AV}
    (hn : fn.ntmps - args.length = nt)
    (h : ev P C base c (endR P base l fn.results.toList v m1) (args ++ undefs nt) m) {w : World} {g : G} {vs : Array Value} (hm : MSim w g base (mget m)) (ha : RepL w g base args vs) :
    Calls P fid vs w fun e w' => ∃ x g', e = .returned x ∧ Rep w' g' base v x ∧ MSim w' g' base (mget m1) ∧ Tr g w w' ∧ LeG base g g' := by
  refine calls_of_wp hf hb ?_
  have hsz : args.length = vs.size := ha.1
  have hs : Sim w g (base + L) (args ++ undefs nt) (mget m) { tmps := vs ++ Array.replicate (fn.ntmps - vs.size) undef, defers := [] } := by
    refine ⟨⟨by rw [undefs_eq]; simp [hsz, ← hn], fun i c x hc hx => ?_⟩, rfl, hm.raise (Nat.le_add_right _ _)⟩
    by_cases hi : i < args.length
    · rw [List.getElem?_append_left hi] at hc
      rw [Array.getElem?_append_left (by omega)] at hx
      exact (ha.2 i c x hc hx).mono ⟨fun _ h => h, fun _ _ => rfl⟩ (Nat.le_add_right _ _) fun _ _ h => ⟨h, rfl, rfl⟩
    · rw [List.getElem?_append_right (by omega), undefs_eq, List.getElem?_replicate] at hc
      rw [Array.getElem?_append_right (by omega), Array.getElem?_replicate] at hx
      split at hc
      · split at hx
        · simp at hc hx; subst hc; subst hx; exact .lit _
        · cases hx
      · cases hc
  refine Code.wp_mono (fun e a' w' hh => ?_) ((ev_ok hC c h).go w g _ hs)
  obtain ⟨ae, f', m', g', rfl, hq, hs', ht, hl⟩ := hh
  cases ae with
  | normal =>
    obtain ⟨x, g2, e1, e2, e3, e4⟩ := endR_ok (Nat.le_add_right _ _) hq hs'
    exact ⟨hs'.df, x, e1, x, g2, rfl, e2, e3, ht, hl.trans e4⟩
  | ret =>
    obtain ⟨x, g2, e1, e2, e3, e4⟩ := endR_ok (Nat.le_add_right _ _) hq hs'
    exact ⟨hs'.df, x, e1, x, g2, rfl, e2, e3, ht, hl.trans e4⟩
  | exit i => exact hq.elim

/-- **A CONTRACT OF A FUNCTION WHOSE RESULT HOLDS VARIABLES.** -/
theorem Ev1.of_finR {P : Program} {C : Cfg2} (hC : Cfg2Ok P C) {fid : FuncId} {fn : Func} {c : Code} (hf : P.funcs[fid]? = some fn) (hb : fn.body = some c) (l : List (Nat × Nat)) {nt : Nat} {args : List AV} {m0 m1 : Mem} {v : AV}
    (hn : fn.ntmps - args.length = nt) (h : ev P C L c (endR P L l fn.results.toList v m1) (args ++ undefs nt) m0) : Ev1 P fid args m0 v m1 :=
  fun _ _ _ hm ha => calls_of_evR hC hf hb hn h hm ha

end Eng

/- homesteadlaw13.WorldPuts. -/
set_option linter.unusedSimpArgs false
set_option linter.unusedVariables false
namespace Go.Proofs.Ytelgmmcnopjolaa
open Go Go.RowKit Eng

theorem put_num (w : Wld) (c : Chunk) : 0 ≤ (putW w c).2 ∧ (putW w c).2 ≤ 113 := by
  rcases put_err w c with ⟨_, _, _, h⟩ | ⟨_, ⟨h, _⟩ | ⟨h, _⟩⟩ <;> omega
theorem set_num (w : Wld) (p : Player) : 0 ≤ (setW w p).2 ∧ (setW w p).2 ≤ 113 := by
  rcases set_err w p with ⟨_, h⟩ | ⟨_, ⟨h, _⟩ | ⟨h, _⟩ | ⟨h, _⟩⟩ <;> omega
theorem put_ok {w : Wld} {c : Chunk} (h : (putW w c).2 = 0) : RW w ∧ rightB c = true ∧ max c.x c.y < w.size := by
  rcases put_err w c with ⟨h1, h2, h3, _⟩ | ⟨_, ⟨h1, _⟩ | ⟨h1, _⟩⟩
  · exact ⟨h1, h2, h3⟩
  all_goals omega
theorem set_ok {w : Wld} {p : Player} (h : (setW w p).2 = 0) : setOk w p := by
  rcases set_err w p with ⟨h1, _⟩ | ⟨_, ⟨h1, _⟩ | ⟨h1, _⟩ | ⟨h1, _⟩⟩
  · exact h1
  all_goals omega
theorem key_ne {c d : Chunk} (hc : rightB c = true) (hd : rightB d = true) (h : ¬ c.x = d.x ∨ ¬ c.y = d.y) : keyC c ≠ keyC d := by
  have h1 := rightB_pos hc
  have h2 := rightB_pos hd
  unfold keyC; omega
theorem puts_same {w : Wld} {c d : Chunk} (h1 : (putW w c).2 = 0) (h2 : (putW w d).2 = 0) (hne : ¬ c.x = d.x ∨ ¬ c.y = d.y) : (putW (putW w c).1 d).1 = (putW (putW w d).1 c).1 := by
  obtain ⟨hR, hB, hM⟩ := put_ok h1
  obtain ⟨_, hB2, hM2⟩ := put_ok h2
  rw [put_eq hR hB hM, put_eq hR hB2 hM2, put_eq (rw_put hR hB hM) hB2 hM2, put_eq (rw_put hR hB2 hM2) hB hM]
  show withCs (withCs w _) _ = withCs (withCs w _) _
  unfold withCs
  exact congrArg (fun l => (⟨w.size, w.seed, w.tick, l, w.players⟩ : Wld)) (put_comm hR (key_ne hB hB2 hne))
theorem puts_again {w : Wld} {c : Chunk} (h : (putW w c).2 = 0) : putW (putW w c).1 c = ((putW w c).1, 0) := by
  obtain ⟨hR, hB, hM⟩ := put_ok h
  rw [put_eq hR hB hM, put_eq (rw_put hR hB hM) hB hM]
  show (withCs (withCs w _) _, (0 : Int)) = (withCs w _, 0)
  unfold withCs
  exact congrArg (fun l => ((⟨w.size, w.seed, w.tick, l, w.players⟩ : Wld), (0 : Int))) (put_again hR.rc)
theorem sets_same {w : Wld} {p q : Player} (h1 : (setW w p).2 = 0) (h2 : (setW w q).2 = 0) (h3 : (setW (setW w p).1 q).2 = 0) (h4 : (setW (setW w q).1 p).2 = 0) (hne : ¬ p.id = q.id) : (setW (setW w p).1 q).1 = (setW (setW w q).1 p).1 := by
  have o1 := set_ok h1
  have o2 := set_ok h2
  have o3 := set_ok h3
  have o4 := set_ok h4
  rw [set_eq o3, set_eq o4, set_eq o1, set_eq o2]
  show withP (withP w _) _ = withP (withP w _) _
  unfold withP
  exact congrArg (fun l => (⟨w.size, w.seed, w.tick, w.chunks, l⟩ : Wld)) (set_comm o1.1 hne)
theorem sets_again {w : Wld} {p : Player} (h : (setW w p).2 = 0) : setW (setW w p).1 p = ((setW w p).1, 0) := by
  have o := set_ok h
  have o2 : setOk (setW w p).1 p := by
    rw [set_eq o]
    exact ⟨rw_set o, o.2.1, o.2.2.1, .inl (by show (getK pid (setL w.players p) p.id).isSome = true; rw [getK_setL o.1.rp, if_pos rfl]; rfl)⟩
  rw [set_eq o2, set_eq o]
  show (withP (withP w _) _, (0 : Int)) = (withP w _, 0)
  unfold withP
  exact congrArg (fun l => ((⟨w.size, w.seed, w.tick, w.chunks, l⟩ : Wld), (0 : Int))) (set_again o.1.rp)

theorem codeB {α : Type} {a b : α} {P Q : Prop} (h : P → Q → a = b) : ∃ B : Int, eqv a b = decide (B = 0) ∧ (P → Q → B = 0) := by
  by_cases he : a = b
  · exact ⟨0, by rw [he, eqv_self]; rfl, fun _ _ => rfl⟩
  · exact ⟨1, by rw [eqv_false.2 he]; rfl, fun p q => absurd (h p q) he⟩

set_option maxRecDepth 100000 in
set_option maxHeartbeats 4000000 in
theorem putsW_api (w : Wld) (c d : Chunk) (p q : Player) (hw : OkW w) (hc : OkC c) (hd : OkC d) (fc : FitC c) (fd : FitC d) (hp : OkP p) (hq : OkP q) : Api Try.prog 9 [wldV w, .agg [i64 c.x, i64 c.y, .vec .u8 c.cells, .vec .heap c.heaps, .vec .box c.boxes, i64 d.x, i64 d.y, .vec .u8 d.cells, .vec .heap d.heaps, .vec .box d.boxes], .agg [i64 p.id, i64 p.x, i64 p.y, .vec .slot p.bag, i64 p.wth, .vec .slot p.offer, bol p.agrees, i64 q.id, i64 q.x, i64 q.y, .vec .slot q.bag, i64 q.wth, .vec .slot q.offer, bol q.agrees]] (bol true) := by
  have hgr := greatW_api w hw
  have hrt := rightW_api w hw
  have haw := awake13_api
  have hnp := hw.np
  cases hG : greatW w with
  | true =>
    rw [hG] at hgr
    refine Api.of_fin cfg_ok Try.func9 rfl (nt := 181) rfl rfl ?_
    conv => whnf
    repeat' (first
      | exact trivial
      | ((first | refine .inl ⟨in64 (by omega) (by omega), ?_⟩ | refine .inl ⟨inU64 (by omega) (by omega), ?_⟩ | refine .inl ⟨inU8 (by omega) (by omega), ?_⟩); (conv => whnf))
      | ((refine ⟨fun hb => ?_, fun hb => ?_⟩) <;> (try simp only [decide_eq_true_eq, decide_eq_false_iff_not, Int.not_lt, Int.not_le, beq_iff_eq, beq_eq_false_iff_ne, bne_iff_ne, bne_eq_false_iff_eq, ne_eq, Decidable.not_not, Bool.not_eq_true', Bool.not_eq_false', Bool.not_eq_true, Bool.not_eq_false, Int.toNat_natCast, Bool.and_eq_true, Bool.or_eq_true, Bool.and_eq_false_iff, Bool.or_eq_false_iff, List.length_nil, List.length_cons] at hb) <;> (first | (exfalso; omega) | contradiction | exact Bool.noConfusion (show true = false from hb.symm.trans (by assumption)) | exact Bool.noConfusion (show false = true from hb.symm.trans (by assumption)) | (conv => whnf)))
      | ((first | (refine callApi (hgr) rfl rfl ?_) | (refine callApiD (hgr) rfl rfl ?_) | (refine callApi (haw) rfl rfl ?_) | (refine callApiD (haw) rfl rfl ?_) | refine Draws.of cfg_ok (by kernel_rfl) ?_ | refine ⟨(by kernel_rfl : confB _ _ _ _ _ = true), ?_⟩ | refine ⟨by (first | omega | (simp only [lens, Int.toNat_natCast, bsz, Nat.zero_mul, Nat.zero_add]; omega)), ?_⟩ | refine .inl ⟨by omega, by omega, ?_⟩ | refine .inr ⟨⟨by (first | omega | (simp only [lens, Int.toNat_natCast, bsz, Nat.zero_mul, Nat.zero_add]; omega)), by (first | omega | (simp only [lens, Int.toNat_natCast, bsz, Nat.zero_mul, Nat.zero_add]; omega))⟩, ?_⟩ | refine .inl ⟨⟨by (first | omega | (simp only [lens, Int.toNat_natCast, bsz, Nat.zero_mul, Nat.zero_add]; omega)), by (first | omega | (simp only [lens, Int.toNat_natCast, bsz, Nat.zero_mul, Nat.zero_add]; omega))⟩, ?_⟩ | refine ⟨rfl, ?_⟩ | refine ⟨congrArg (Value.int _) (by omega), ?_⟩); (conv => whnf))
      | (refine And.intro ?_ ?_; rotate_left; (conv => whnf); rotate_right))
  | false =>
    rw [hG] at hgr
    cases hR : rightW w with
    | false =>
      rw [hR] at hrt
      refine Api.of_fin cfg_ok Try.func9 rfl (nt := 181) rfl rfl ?_
      conv => whnf
      repeat' (first
        | exact trivial
        | ((first | refine .inl ⟨in64 (by omega) (by omega), ?_⟩ | refine .inl ⟨inU64 (by omega) (by omega), ?_⟩ | refine .inl ⟨inU8 (by omega) (by omega), ?_⟩); (conv => whnf))
        | ((refine ⟨fun hb => ?_, fun hb => ?_⟩) <;> (try simp only [decide_eq_true_eq, decide_eq_false_iff_not, Int.not_lt, Int.not_le, beq_iff_eq, beq_eq_false_iff_ne, bne_iff_ne, bne_eq_false_iff_eq, ne_eq, Decidable.not_not, Bool.not_eq_true', Bool.not_eq_false', Bool.not_eq_true, Bool.not_eq_false, Int.toNat_natCast, Bool.and_eq_true, Bool.or_eq_true, Bool.and_eq_false_iff, Bool.or_eq_false_iff, List.length_nil, List.length_cons] at hb) <;> (first | (exfalso; omega) | contradiction | exact Bool.noConfusion (show true = false from hb.symm.trans (by assumption)) | exact Bool.noConfusion (show false = true from hb.symm.trans (by assumption)) | (conv => whnf)))
        | ((first | (refine callApi (hgr) rfl rfl ?_) | (refine callApiD (hgr) rfl rfl ?_) | (refine callApi (hrt) rfl rfl ?_) | (refine callApiD (hrt) rfl rfl ?_) | (refine callApi (haw) rfl rfl ?_) | (refine callApiD (haw) rfl rfl ?_) | refine Draws.of cfg_ok (by kernel_rfl) ?_ | refine ⟨(by kernel_rfl : confB _ _ _ _ _ = true), ?_⟩ | refine ⟨by (first | omega | (simp only [lens, Int.toNat_natCast, bsz, Nat.zero_mul, Nat.zero_add]; omega)), ?_⟩ | refine .inl ⟨by omega, by omega, ?_⟩ | refine .inr ⟨⟨by (first | omega | (simp only [lens, Int.toNat_natCast, bsz, Nat.zero_mul, Nat.zero_add]; omega)), by (first | omega | (simp only [lens, Int.toNat_natCast, bsz, Nat.zero_mul, Nat.zero_add]; omega))⟩, ?_⟩ | refine .inl ⟨⟨by (first | omega | (simp only [lens, Int.toNat_natCast, bsz, Nat.zero_mul, Nat.zero_add]; omega)), by (first | omega | (simp only [lens, Int.toNat_natCast, bsz, Nat.zero_mul, Nat.zero_add]; omega))⟩, ?_⟩ | refine ⟨rfl, ?_⟩ | refine ⟨congrArg (Value.int _) (by omega), ?_⟩); (conv => whnf))
        | (refine And.intro ?_ ?_; rotate_left; (conv => whnf); rotate_right))
    | true =>
      rw [hR] at hrt
      have wa := okW_put hw hc fc
      have wb := okW_put hw hd fd
      have wab := okW_put wa hd fd
      have wba := okW_put wb hc fc
      have xa := okW_set hw hp
      have xb := okW_set hw hq
      have xab := okW_set xa hq
      have xba := okW_set xb hp
      have p1 := put_api w c hw hc fc
      have p2 := put_api (putW w c).1 d wa hd fd
      have p3 := put_api w d hw hd fd
      have p4 := put_api (putW w d).1 c wb hc fc
      have p5 := put_api (putW (putW w d).1 c).1 c wba hc fc
      have s1 := set_world w p hw hp
      have s2 := set_world (setW w p).1 q xa hq
      have s3 := set_world w q hw hq
      have s4 := set_world (setW w q).1 p xb hp
      have s5 := set_world (setW (setW w q).1 p).1 p xba hp
      have n1 := put_num w c
      have n2 := put_num (putW w c).1 d
      have n3 := put_num w d
      have n4 := put_num (putW w d).1 c
      have m1 := set_num w p
      have m2 := set_num (setW w p).1 q
      have m3 := set_num w q
      have m4 := set_num (setW w q).1 p
      have o1 : ∃ B : Int, eqv (putW (putW w c).1 d).1 (putW (putW w d).1 c).1 = decide (B = 0) ∧ ((putW w c).2 + (putW (putW w c).1 d).2 + (putW w d).2 + (putW (putW w d).1 c).2 = 0 → (¬ c.x = d.x ∨ ¬ c.y = d.y) → B = 0) := codeB fun h hne => puts_same (by omega) (by omega) hne
      have o2 : ∃ B : Int, eqv (putW (putW (putW w d).1 c).1 c).1 (putW (putW w d).1 c).1 = decide (B = 0) ∧ ((putW (putW w d).1 c).2 = 0 → True → B = 0) := codeB fun h _ => by rw [puts_again h]
      have o3 : (putW (putW w d).1 c).2 = 0 → (putW (putW (putW w d).1 c).1 c).2 = 0 := fun h => by rw [puts_again h]
      have o4 : ∃ B : Int, eqv (setW (setW w p).1 q).1 (setW (setW w q).1 p).1 = decide (B = 0) ∧ ((setW w p).2 + (setW (setW w p).1 q).2 + (setW w q).2 + (setW (setW w q).1 p).2 = 0 → ¬ p.id = q.id → B = 0) := codeB fun h hne => sets_same (by omega) (by omega) (by omega) (by omega) hne
      have o5 : ∃ B : Int, eqv (setW (setW (setW w q).1 p).1 p).1 (setW (setW w q).1 p).1 = decide (B = 0) ∧ ((setW (setW w q).1 p).2 = 0 → True → B = 0) := codeB fun h _ => by rw [sets_again h]
      have o6 : (setW (setW w q).1 p).2 = 0 → (setW (setW (setW w q).1 p).1 p).2 = 0 := fun h => by rw [sets_again h]
      have wc5 := okW_put wba hc fc
      have xc5 := okW_set xba hp
      have e1 := sameW_api (putW (putW w c).1 d).1 (putW (putW w d).1 c).1 wab
      have e2 := sameW_api (putW (putW (putW w d).1 c).1 c).1 (putW (putW w d).1 c).1 wc5
      have e3 := sameW_api (setW (setW w p).1 q).1 (setW (setW w q).1 p).1 xab
      have e4 := sameW_api (setW (setW (setW w q).1 p).1 p).1 (setW (setW w q).1 p).1 xc5
      obtain ⟨B1, b1, k1⟩ := o1
      obtain ⟨B2, b2, k2'⟩ := o2
      have k2 := fun h => k2' h trivial
      obtain ⟨B4, b4, k4⟩ := o4
      obtain ⟨B5, b5, k5'⟩ := o5
      have k5 := fun h => k5' h trivial
      rw [b1] at e1
      rw [b2] at e2
      rw [b4] at e3
      rw [b5] at e4
      clear b1 b2 b4 b5
      generalize hX5 : putW (putW (putW w d).1 c).1 c = X5 at *
      generalize hY5 : setW (setW (setW w q).1 p).1 p = Y5 at *
      generalize hX4 : putW (putW w d).1 c = X4 at *
      generalize hX2 : putW (putW w c).1 d = X2 at *
      generalize hX1 : putW w c = X1 at *
      generalize hX3 : putW w d = X3 at *
      generalize hY4 : setW (setW w q).1 p = Y4 at *
      generalize hY2 : setW (setW w p).1 q = Y2 at *
      generalize hY1 : setW w p = Y1 at *
      generalize hY3 : setW w q = Y3 at *
      clear hX1 hX2 hX3 hX4 hX5 hY1 hY2 hY3 hY4 hY5
      clear k2' k5'
      refine Api.of_fin cfg_ok Try.func9 rfl (nt := 181) rfl rfl ?_
      conv => whnf
      repeat' (first
        | exact trivial
        | ((first | refine .inl ⟨in64 (by omega) (by omega), ?_⟩ | refine .inl ⟨inU64 (by omega) (by omega), ?_⟩ | refine .inl ⟨inU8 (by omega) (by omega), ?_⟩); (conv => whnf))
        | ((refine ⟨fun hb => ?_, fun hb => ?_⟩) <;> (try simp only [decide_eq_true_eq, decide_eq_false_iff_not, Int.not_lt, Int.not_le, beq_iff_eq, beq_eq_false_iff_ne, bne_iff_ne, bne_eq_false_iff_eq, ne_eq, Decidable.not_not, Bool.not_eq_true', Bool.not_eq_false', Bool.not_eq_true, Bool.not_eq_false, Int.toNat_natCast, Bool.and_eq_true, Bool.or_eq_true, Bool.and_eq_false_iff, Bool.or_eq_false_iff, List.length_nil, List.length_cons] at hb) <;> (first | (exfalso; omega) | contradiction | exact Bool.noConfusion (show true = false from hb.symm.trans (by assumption)) | exact Bool.noConfusion (show false = true from hb.symm.trans (by assumption)) | (conv => whnf)))
        | ((first | (refine callApi (hgr) rfl rfl ?_) | (refine callApiD (hgr) rfl rfl ?_) | (refine callApi (hrt) rfl rfl ?_) | (refine callApiD (hrt) rfl rfl ?_) | (refine callApi (haw) rfl rfl ?_) | (refine callApiD (haw) rfl rfl ?_) | (refine callApi (p1) rfl rfl ?_) | (refine callApiD (p1) rfl rfl ?_) | (refine callApi (p2) rfl rfl ?_) | (refine callApiD (p2) rfl rfl ?_) | (refine callApi (p3) rfl rfl ?_) | (refine callApiD (p3) rfl rfl ?_) | (refine callApi (p4) rfl rfl ?_) | (refine callApiD (p4) rfl rfl ?_) | (refine callApi (p5) rfl rfl ?_) | (refine callApiD (p5) rfl rfl ?_) | (refine callApi (s1) rfl rfl ?_) | (refine callApiD (s1) rfl rfl ?_) | (refine callApi (s2) rfl rfl ?_) | (refine callApiD (s2) rfl rfl ?_) | (refine callApi (s3) rfl rfl ?_) | (refine callApiD (s3) rfl rfl ?_) | (refine callApi (s4) rfl rfl ?_) | (refine callApiD (s4) rfl rfl ?_) | (refine callApi (s5) rfl rfl ?_) | (refine callApiD (s5) rfl rfl ?_) | (refine callApi (e1) rfl rfl ?_) | (refine callApiD (e1) rfl rfl ?_) | (refine callApi (e2) rfl rfl ?_) | (refine callApiD (e2) rfl rfl ?_) | (refine callApi (e3) rfl rfl ?_) | (refine callApiD (e3) rfl rfl ?_) | (refine callApi (e4) rfl rfl ?_) | (refine callApiD (e4) rfl rfl ?_) | refine Draws.of cfg_ok (by kernel_rfl) ?_ | refine ⟨(by kernel_rfl : confB _ _ _ _ _ = true), ?_⟩ | refine ⟨by (first | omega | (simp only [lens, Int.toNat_natCast, bsz, Nat.zero_mul, Nat.zero_add]; omega)), ?_⟩ | refine .inl ⟨by omega, by omega, ?_⟩ | refine .inr ⟨⟨by (first | omega | (simp only [lens, Int.toNat_natCast, bsz, Nat.zero_mul, Nat.zero_add]; omega)), by (first | omega | (simp only [lens, Int.toNat_natCast, bsz, Nat.zero_mul, Nat.zero_add]; omega))⟩, ?_⟩ | refine .inl ⟨⟨by (first | omega | (simp only [lens, Int.toNat_natCast, bsz, Nat.zero_mul, Nat.zero_add]; omega)), by (first | omega | (simp only [lens, Int.toNat_natCast, bsz, Nat.zero_mul, Nat.zero_add]; omega))⟩, ?_⟩ | refine ⟨rfl, ?_⟩ | refine ⟨congrArg (Value.int _) (by omega), ?_⟩); (conv => whnf))
        | (refine And.intro ?_ ?_; rotate_left; (conv => whnf); rotate_right))
      all_goals first | omega | trace_state

end Go.Proofs.Ytelgmmcnopjolaa
