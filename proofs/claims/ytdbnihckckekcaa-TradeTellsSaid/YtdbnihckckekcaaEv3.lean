/- CODE OVER ABSTRACT VALUES, third part: tests, loops, ends; functions. -/
import Derived.Test.YtdbnihckckekcaaEv2
set_option linter.unusedSimpArgs false
set_option linter.unusedVariables false
namespace Eng
open Go Go.RowKit

inductive AE where
  | normal
  | exit (i : Nat)
  | ret

def exitOf : AE → Exit
  | .normal => .normal
  | .exit i => .exit i
  | .ret => .ret

/-- What stands behind a piece of code. -/
abbrev Post := AE → List AV → Mem → Prop

/-- CODE AT WORK, as the model has it. -/
structure Runs (P : Program) (base : Nat) (c : Code) (Q : Post) (f : List AV) (m : Mem) : Prop where
  go : ∀ (w : World) (g : G) (a : Act), Sim w g (base + L) f (mget m) a →
    c.wp P (fun e a' w' => ∃ ae f' m' g', e = exitOf ae ∧ Q ae f' m' ∧ Sim w' g' (base + L) f' (mget m') a' ∧ Tr g w w' ∧ LeG base g g') a w

/-- A DRAWN REGION (left open here). -/
structure Draws (P : Program) (base : Nat) (ops : Array Oper) (f : List AV) (m : Mem) (K : List AV → Mem → Prop) : Prop where
  go : ∀ (id : Nat), Runs P base (.region id ops true) (fun e f' m' => match e with | .normal => K f' m' | _ => False) f m

/-- Code, by its text. A loop and a region that draws its order are left as they are. -/
def ev (P : Program) (C : Cfg2) (base : Nat) : Code → Post → List AV → Mem → Prop
  | .skip, Q, f, m => Q .normal f m
  | .region _ ops draw, Q, f, m => match draw with
    | false => opsK P C base ops.toList ops.toList f m (Q .normal)
    | true => Draws P base ops f m (Q .normal)
  | .seq x y, Q, f, m => ev P C base x (fun e f' m' => match e with | .normal => ev P C base y Q f' m' | e => Q e f' m') f m
  | .cond c x y, Q, f, m => avalK f c fun v => match v with
    | .tt => ev P C base x Q f m
    | .ff => ev P C base y Q f m
    | .lit (.bool b) => (b = true → ev P C base x Q f m) ∧ (b = false → ev P C base y Q f m)
    | .bl p q => (p → ev P C base x Q f m) ∧ (q → ev P C base y Q f m)
    | _ => False
  | .block i x, Q, f, m => ev P C base x (fun e f' m' => match e with | .exit j => (match Nat.beq j i with | true => Q .normal f' m' | false => Q (.exit j) f' m') | e => Q e f' m') f m
  | .exit i, Q, f, m => Q (.exit i) f m
  | .ret, Q, f, m => Q .ret f m
  | .loop x, Q, f, m => Runs P base (.loop x) Q f m
  | _, _, _, _ => False

theorem Runs.mono {P : Program} {base : Nat} {c : Code} {Q Q' : Post} {f : List AV} {m : Mem} (h : Runs P base c Q f m) (hq : ∀ e f m, Q e f m → Q' e f m) : Runs P base c Q' f m :=
  ⟨fun w g a hs => Code.wp_mono (fun _ _ _ ⟨ae, f', m', g', e1, e2, e3⟩ => ⟨ae, f', m', g', e1, hq _ _ _ e2, e3⟩) (h.go w g a hs)⟩

theorem Runs.seq {P : Program} {base : Nat} {x y : Code} {Q : Post} {f : List AV} {m : Mem}
    (h : Runs P base x (fun e f' m' => match e with | .normal => Runs P base y Q f' m' | e => Q e f' m') f m) : Runs P base (.seq x y) Q f m := by
  refine ⟨fun w g a hs => ?_⟩
  refine wp_seq (Code.wp_mono (fun e a' w' hh => ?_) (h.go w g a hs))
  obtain ⟨ae, f', m', g', rfl, hq, hs', ht, hl⟩ := hh
  cases ae with
  | normal =>
    refine Code.wp_mono (fun e a2 w2 hh => ?_) (hq.go w' g' a' hs')
    obtain ⟨ae, f2, m2, g2, e1, e2, e3, e4, e5⟩ := hh
    exact ⟨ae, f2, m2, g2, e1, e2, e3, ht.trans hl e4, hl.trans e5⟩
  | exit i => exact ⟨.exit i, f', m', g', rfl, hq, hs', ht, hl⟩
  | ret => exact ⟨.ret, f', m', g', rfl, hq, hs', ht, hl⟩

theorem Runs.block {P : Program} {base : Nat} {i : Nat} {x : Code} {Q : Post} {f : List AV} {m : Mem}
    (h : Runs P base x (fun e f' m' => match e with | .exit j => (match Nat.beq j i with | true => Q .normal f' m' | false => Q (.exit j) f' m') | e => Q e f' m') f m) : Runs P base (.block i x) Q f m := by
  refine ⟨fun w g a hs => ?_⟩
  refine wp_block (Code.wp_mono (fun e a' w' hh => ?_) (h.go w g a hs))
  obtain ⟨ae, f', m', g', rfl, hq, hs', ht, hl⟩ := hh
  cases ae with
  | normal => exact ⟨.normal, f', m', g', rfl, hq, hs', ht, hl⟩
  | ret => exact ⟨.ret, f', m', g', rfl, hq, hs', ht, hl⟩
  | exit j =>
    simp only [exitOf, Exit.inBlock]
    cases hb : Nat.beq j i with
    | true =>
      simp only [hb] at hq
      rw [if_pos (nbt.1 hb)]
      exact ⟨.normal, f', m', g', rfl, hq, hs', ht, hl⟩
    | false =>
      simp only [hb] at hq
      rw [if_neg (nbf.1 hb)]
      exact ⟨.exit j, f', m', g', rfl, hq, hs', ht, hl⟩

theorem ev_ok {P : Program} {C : Cfg2} (hC : Cfg2Ok P C) {base : Nat} (c : Code) : ∀ {Q : Post} {f : List AV} {m : Mem}, ev P C base c Q f m → Runs P base c Q f m := by
  induction c with
  | skip => intro Q f m h; refine ⟨fun w g a hs => ?_⟩; exact wp_skip ⟨.normal, f, m, g, rfl, h, hs, Tr.refl g w, LeG.refl base g⟩
  | region id ops draw =>
    intro Q f m h
    cases draw with
    | true => exact (Draws.go h id).mono fun e f m hh => by cases e <;> first | exact hh | exact hh.elim
    | false =>
      refine ⟨fun w g a hs => ?_⟩
      refine wp_region_list ?_
      have := opsK_ok hC ops.toList h w g a hs (fun e a' w' => ∃ ae f' m' g', e = exitOf ae ∧ Q ae f' m' ∧ Sim w' g' (base + L) f' (mget m') a' ∧ Tr g w w' ∧ LeG base g g')
        (fun f' m' w' g' a' hK hs' ht hl => ⟨.normal, f', m', g', rfl, hK, hs', ht, hl⟩)
      simpa using this
  | seq x y ihx ihy =>
    intro Q f m h
    refine Runs.seq ((ihx h).mono fun e f m hh => ?_)
    cases e with
    | normal => exact ihy hh
    | exit i => exact hh
    | ret => exact hh
  | cond c x y ihx ihy =>
    intro Q f m h
    refine ⟨fun w g a hs => ?_⟩
    simp only [ev] at h
    rw [avalK_eq] at h
    have hr := rep_aval hs c
    split at h
    · rename_i hv
      rw [hv] at hr
      refine wp_cond_true (by generalize hE : a.eval c = E at hr; cases hr; rfl) ((ihx h).go w g a hs)
    · rename_i hv
      rw [hv] at hr
      refine wp_cond_false (by generalize hE : a.eval c = E at hr; cases hr; rfl) ((ihy h).go w g a hs)
    · rename_i b hv
      rw [hv] at hr
      exact wp_cond_split (rep_lit hr) (fun hb => (ihx (h.1 hb)).go w g a hs) (fun hb => (ihy (h.2 hb)).go w g a hs)
    · rename_i p q hv
      rw [hv] at hr
      generalize hE : a.eval c = E at hr
      cases hr with
      | bl _ _ b hp hq => exact wp_cond_split hE (fun hb => (ihx (h.1 (hp hb))).go w g a hs) (fun hb => (ihy (h.2 (hq hb))).go w g a hs)
    · exact h.elim
  | block i x ih => intro Q f m h; exact Runs.block ((ih h).mono fun e f m hh => hh)
  | loop x ih => intro Q f m h; exact h
  | exit i => intro Q f m h; refine ⟨fun w g a hs => ?_⟩; exact wp_exit ⟨.exit i, f, m, g, rfl, h, hs, Tr.refl g w, LeG.refl base g⟩
  | ret => intro Q f m h; refine ⟨fun w g a hs => ?_⟩; exact wp_ret ⟨.ret, f, m, g, rfl, h, hs, Tr.refl g w, LeG.refl base g⟩
  | rangeFunc _ _ _ _ _ _ => intro Q f m h; exact h.elim
  | scope _ _ => intro Q f m h; exact h.elim
  | label _ => intro Q f m h; exact h.elim
  | goto _ => intro Q f m h; exact h.elim
  | refuse _ => intro Q f m h; exact h.elim

/-- One state says at least what another one says: slots that are forgotten, variables that are given up. -/
inductive LeF : List AV → List AV → Prop where
  | nil : LeF [] []
  | same {v : AV} {f f' : List AV} (h : LeF f f') : LeF (v :: f) (v :: f')
  | top {v : AV} {f f' : List AV} (h : LeF f f') : LeF (v :: f) (.top :: f')
theorem LeF.repL {w : World} {g : G} {lim : Nat} {f f' : List AV} {xs : Array Value} (h : LeF f f') (hr : RepL w g lim f xs) : RepL w g lim f' xs := by
  have hl : f.length = f'.length := by
    clear hr
    induction h with
    | nil => rfl
    | same _ ih => simp [ih]
    | top _ ih => simp [ih]
  refine ⟨by rw [← hl]; exact hr.1, fun i c x hc hx => ?_⟩
  have key : ∀ (f f' : List AV), LeF f f' → ∀ (i : Nat) (c : AV), f'[i]? = some c → c = AV.top ∨ f[i]? = some c := by
    intro f f' h
    induction h with
    | nil => intro i c hc; simp at hc
    | same _ ih => intro i c hc; cases i with
      | zero => exact .inr hc
      | succ i => simpa using ih i c (by simpa using hc)
    | top _ ih => intro i c hc; cases i with
      | zero => simp at hc; exact .inl hc.symm
      | succ i => simpa using ih i c (by simpa using hc)
  rcases key f f' h i c hc with rfl | h2
  · exact .top x
  · exact hr.2 i c x h2 hx

/-- Own blocks given up. -/
def dels : List Nat → Mem → Mem
  | [], m => m
  | k :: r, m => dels r (mdel m k)

theorem Sim.del {w : World} {g : G} {lim : Nat} {f : List AV} {m : Mem} {a : Act} (hs : Sim w g lim f (mget m) a) (k : Nat) : Sim w (g.kill k) lim f (mget (mdel m k)) a :=
  ⟨hs.fr.kill k, hs.df, by rw [mget_mdel']; exact hs.me.kill k⟩
theorem Sim.dels {w : World} {lim : Nat} {f : List AV} {a : Act} (base : Nat) (ks : List Nat) : ∀ {g : G} {m : Mem}, Sim w g lim f (mget m) a → ∃ g', Sim w g' lim f (mget (dels ks m)) a ∧ LeG base g g' ∧ Tr g w w := by
  induction ks with
  | nil => intro g m hs; exact ⟨g, hs, LeG.refl base g, Tr.refl g w⟩
  | cons k r ih =>
    intro g m hs
    obtain ⟨g', h1, h2, h3⟩ := ih (hs.del k)
    exact ⟨g', h1, (LeG.kill base g k).trans h2, Tr.refl g w⟩

theorem wp_loop_n {P : Program} {Q : Exit → Act → World → Prop} {a : Act} {w : World} {c : Code} (I : Nat → Act → World → Prop) (n : Nat) (h₀ : I n a w)
    (round : ∀ n a w, I n a w → c.wp P (Exit.then (fun a' w' => ∃ n', n' < n ∧ I n' a' w') Q) a w) : (Code.loop c).wp P Q a w := by
  intro b k cs
  have key : ∀ n a w, I n a w → ∃ e a' w', Q e a' w' ∧ Arrives P (lone (b.at a (.code c :: .inLoop c :: k)) cs w) b k cs e a' w' := by
    intro n
    induction n using Nat.strongRecOn with
    | _ n ih =>
      intro a w hI
      obtain ⟨e, a₁, w₁, hq, harr⟩ := round n a w hI b (.inLoop c :: k) cs
      cases e with
      | normal =>
        obtain ⟨n', hlt, hI₁⟩ := hq
        obtain ⟨e₂, a₂, w₂, hq₂, harr₂⟩ := ih n' hlt a₁ w₁ hI₁
        exact ⟨e₂, a₂, w₂, hq₂, .of_steps (Steps.trans harr (.one step_inLoop)) harr₂⟩
      | exit id => exact ⟨_, a₁, w₁, hq, .pass (x := .inLoop c) rfl (fun _ _ => .inl (by simp)) harr⟩
      | goto l => exact ⟨_, a₁, w₁, hq, .pass (x := .inLoop c) rfl (fun _ _ => .inl (by simp)) harr⟩
      | ret => exact ⟨_, a₁, w₁, hq, .pass (x := .inLoop c) rfl (fun _ _ => .inl (by simp)) harr⟩
      | panic ch => exact ⟨_, a₁, w₁, hq, .pass (x := .inLoop c) rfl (fun _ _ => .inl (by simp)) harr⟩
      | outgrown => exact ⟨_, a₁, w₁, hq, .pass (x := .inLoop c) rfl (fun _ _ => .inl (by simp)) harr⟩
  obtain ⟨e, a', w', hq, harr⟩ := key n a w h₀
  exact ⟨e, a', w', hq, .of_steps (.one step_loop) harr⟩

/-- **A LOOP**: 'I n f m': what holds at a round's head, n a number that each round lowers. Ahead of each round slots may be forgotten and own blocks given up. -/
theorem Runs.loop {P : Program} {C : Cfg2} (hC : Cfg2Ok P C) {base : Nat} {c : Code} {Q : Post} {f : List AV} {m : Mem} (I : Nat → List AV → Mem → Prop) (n : Nat) (ks : List Nat) (f0 : List AV)
    (h0 : LeF f f0) (hI : I n f0 (dels ks m))
    (round : ∀ n f m, I n f m → ev P C base c (fun e f' m' => match e with
      | .normal => ∃ n' f2 ks, n' < n ∧ LeF f' f2 ∧ I n' f2 (dels ks m')
      | e => Q e f' m') f m) : Runs P base (.loop c) Q f m := by
  refine ⟨fun w g a hs => ?_⟩
  obtain ⟨g0, hs0, hl0, _⟩ := Sim.dels base ks hs
  have hs1 : Sim w g0 (base + L) f0 (mget (dels ks m)) a := ⟨h0.repL hs0.fr, hs0.df, hs0.me⟩
  refine wp_loop_n (fun n a' w' => ∃ f' m' g', I n f' m' ∧ Sim w' g' (base + L) f' (mget m') a' ∧ Tr g w w' ∧ LeG base g g') n ⟨f0, _, g0, hI, hs1, Tr.refl g w, hl0⟩ ?_
  intro n1 a1 w1 hh
  obtain ⟨f1, m1, g1, hI1, hs1, ht1, hl1⟩ := hh
  refine Code.wp_mono (fun e a2 w2 hh => ?_) ((ev_ok hC c (round n1 f1 m1 hI1)).go w1 g1 a1 hs1)
  obtain ⟨ae, f2, m2, g2, rfl, hq, hs2, ht2, hl2⟩ := hh
  cases ae with
  | normal =>
    obtain ⟨n', f3, ks', hlt, hle, hI'⟩ := hq
    obtain ⟨g3, hs3, hl3, _⟩ := Sim.dels base ks' hs2
    exact ⟨n', hlt, f3, _, g3, hI', ⟨hle.repL hs3.fr, hs3.df, hs3.me⟩, ht1.trans hl1 ht2, (hl1.trans hl2).trans hl3⟩
  | exit i => exact ⟨.exit i, f2, m2, g2, rfl, hq, hs2, ht1.trans hl1 ht2, hl1.trans hl2⟩
  | ret => exact ⟨.ret, f2, m2, g2, rfl, hq, hs2, ht1.trans hl1 ht2, hl1.trans hl2⟩

end Eng
