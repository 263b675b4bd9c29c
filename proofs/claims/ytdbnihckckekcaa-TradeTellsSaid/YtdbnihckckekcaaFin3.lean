/- STATES MATCHED: a call's result and memory, a loop's state, against what is said of them; rows renamed, born, frozen, given up on the way. -/
import Derived.Test.YtdbnihckckekcaaFin2
set_option linter.unusedSimpArgs false
set_option linter.unusedVariables false
namespace Eng
open Go Go.RowKit

/-- May a row be named j? -/
def freshB (base j : Nat) (m : Mem) (oth : List AV) : Bool :=
  match Nat.beq (j % 2) 1 with
  | true => match Nat.ble base j with
    | true => match hasK m j with
      | true => false
      | false => match memB j m with
        | true => match menL j oth with | true => false | false => true
        | false => false
    | false => false
  | false => false
theorem freshB_ok {base j : Nat} {m : Mem} {oth : List AV} (h : freshB base j m oth = true) : j % 2 = 1 ∧ base ≤ j ∧ mget m j = none ∧ (∀ i b, mget m i = some b → menB j b = false) ∧ menL j oth = false := by
  unfold freshB at h
  split at h
  · rename_i h1
    split at h
    · rename_i h2
      split at h
      · cases h
      · rename_i h3
        split at h
        · rename_i h4
          split at h
          · cases h
          · rename_i h5
            refine ⟨nbt.1 h1, Nat.le_of_ble_eq_true h2, ?_, memB_ok h4, h5⟩
            rw [hasK_some] at h3
            cases hm : mget m j with
            | none => rfl
            | some b => rw [hm] at h3; cases h3
        · cases h
    · cases h
  · cases h

mutual
/-- A value, against what is said of it. -/
def finV (base : Nat) (tgt : Mem) (oth : List AV) : AV → AV → Mem → (Mem → Prop) → Prop
  | .own t k off n _, e, m, K => match e with
    | .own t2 j o2 n2 c2 => match c2 with
      | some _ => False
      | none => match Nat.beq o2 0 with
        | false => False
        | true => match Nat.beq off 0 with
          | false => False
          | true => match tyB t t2 with
            | false => False
            | true => memK m k fun b => match b with
              | .box _ => False
              | .row t' l => match tyB t' t with
                | false => False
                | true => memK tgt j fun b2 => match b2 with
                  | .box _ => False
                  | .row t3 l2 => asK t' t2 l fun l => asK t3 t2 l2 fun l2 => (n = n2 ∧ n ≤ l.length ∧ l.take n = l2) ∧
                    match Nat.beq k j with
                    | true => msetC m j (.row t2 l2) K
                    | false => match freshB base j m oth with
                      | true => mdelC m k fun m => msetC m j (.row t2 l2) K
                      | false => False
    | .vec t2 l2 => match tyB t t2 with
      | false => False
      | true => memK m k fun b => match b with
        | .box _ => False
        | .row t' l => match tyB t' t with
          | false => False
          | true => asK t' t2 l fun l => (off + n ≤ l.length ∧ (l.drop off).take n = l2) ∧ mdelC m k K
    | .top => K m
    | _ => False
  | .emp _, e, m, K => match e with
    | .own t2 j o2 n2 c2 => match c2 with
      | some _ => False
      | none => memK tgt j fun b2 => match b2 with
        | .box _ => False
        | .row t3 l2 => asK t3 t2 l2 fun l2 => (n2 = 0 ∧ l2 = []) ∧ match freshB base j m oth with
          | true => match Nat.beq o2 0 with | true => msetC m j (.row t2 l2) K | false => False
          | false => False
    | .vec _ l2 => l2 = [] ∧ K m
    | .emp _ => K m
    | .top => K m
    | _ => False
  | .lit x, e, m, K => match e with
    | .lit y => x = y ∧ K m
    | .top => K m
    | .bl p q => match x with
      | .bool b => ((b = true → p) ∧ (b = false → q)) ∧ K m
      | _ => False
    | .own t2 j o2 n2 c2 => match x with
      | .slice none 0 0 => match c2 with
        | some _ => False
        | none => memK tgt j fun b2 => match b2 with
          | .box _ => False
          | .row t3 l2 => asK t3 t2 l2 fun l2 => (n2 = 0 ∧ l2 = []) ∧ match freshB base j m oth with
            | true => match Nat.beq o2 0 with | true => msetC m j (.row t2 l2) K | false => False
            | false => False
      | _ => False
    | .vec _ l2 => match x with
      | .slice none 0 _ => l2 = [] ∧ K m
      | _ => False
    | .emp _ => match x with
      | .slice none 0 0 => K m
      | _ => False
    | .tt => x = .bool true ∧ K m
    | .ff => x = .bool false ∧ K m
    | _ => False
  | .vec t l, e, m, K => match e with
    | .vec t2 l2 => asK t t2 l fun l => l = l2 ∧ K m
    | .top => K m
    | _ => False
  | .tt, e, m, K => match e with
    | .tt => K m
    | .lit y => y = .bool true ∧ K m
    | .bl p _ => p ∧ K m
    | .top => K m
    | _ => False
  | .ff, e, m, K => match e with
    | .ff => K m
    | .lit y => y = .bool false ∧ K m
    | .bl _ q => q ∧ K m
    | .top => K m
    | _ => False
  | .bl p q, e, m, K => match e with
    | .lit y => match y with
      | .bool b => ((p → b = true) ∧ (q → b = false)) ∧ K m
      | _ => False
    | .bl p' q' => ((p → p') ∧ (q → q')) ∧ K m
    | .top => K m
    | _ => False
  | .ptr k o, e, m, K => match e with
    | .ptr k2 o2 => match Nat.beq k k2 with
      | true => match Nat.beq o o2 with | true => K m | false => False
      | false => False
    | .top => K m
    | _ => False
  | .agg cs, e, m, K => match e with
    | .agg es => finL base tgt oth cs es m K
    | .top => K m
    | _ => False
  | .tup cs, e, m, K => match e with
    | .tup es => finL base tgt oth cs es m K
    | .top => K m
    | _ => False
  | v, e, m, K => match e with
    | .top => K m
    | e => v = e ∧ K m
def finL (base : Nat) (tgt : Mem) (oth : List AV) : List AV → List AV → Mem → (Mem → Prop) → Prop
  | [], es, m, K => match es with
    | [] => K m
    | _ => False
  | c :: r, es, m, K => match es with
    | e :: es => finV base tgt (r ++ oth) c e m fun m => finL base tgt (e :: oth) r es m K
    | [] => False
end

/-- Behind a match: what is said of the value holds, and of all others what was said of them. -/
def FinOk (base : Nat) (oth : List AV) (m m2 : Mem) (V : World → G → Nat → Prop) (V' : World → G → Nat → Prop) : Prop :=
  (∀ k cs, mget m k = some (.box cs) → ∃ cs', mget m2 k = some (.box cs')) ∧
  ∀ (w : World) (g : G) (lim : Nat), MSim w g lim (mget m) → ∃ g2, MSim w g2 lim (mget m2) ∧ LeG base g g2 ∧ (V w g lim → V' w g2 lim) ∧
    (∀ (u : AV) (y : Value), u ∈ oth → Rep w g lim u y → Rep w g2 lim u y) ∧ ∀ k cs, mget m k = some (.box cs) → g2.be k = g.be k ∧ g2.sz k = g.sz k

theorem FinOk.same {base : Nat} {oth : List AV} {m : Mem} {V V' : World → G → Nat → Prop} (h : ∀ w g lim, V w g lim → V' w g lim) : FinOk base oth m m V V' :=
  ⟨fun _ cs h => ⟨cs, h⟩, fun w g lim hm => ⟨g, hm, LeG.refl base g, h w g lim, fun _ _ _ h => h, fun _ _ _ => ⟨rfl, rfl⟩⟩⟩

theorem menL_mem {k : Nat} {l : List AV} (h : menL k l = false) {u : AV} (hu : u ∈ l) : men k u = false := by
  cases hm : men k u with
  | false => rfl
  | true =>
    obtain ⟨i, hi⟩ := List.getElem?_of_mem hu
    rw [menL_get hi hm] at h; cases h

/-- A row shortened. -/
theorem MSim.cut {w : World} {g : G} {lim : Nat} {m : Nat → Option Blk} (h : MSim w g lim m) (k : Nat) {t : Ty} {l : List (El t)} (hk : m k = some (.row t l)) (n : Nat) : MSim w g lim (Eng.put m k (some (.row t (l.take n)))) := by
  refine ⟨fun j => ?_, h.lt, h.nro, h.inj, fun j b hb => ?_, h.rolt, h.nof⟩
  · by_cases hjk : k = j
    · subst hjk; simp [Eng.put, (h.al k).2 (by simp [hk])]
    · simp [Eng.put, hjk, h.al j]
  · by_cases hjk : k = j
    · subst hjk; rw [put_self] at hb; cases hb
      rcases h.blk k _ hk with ⟨h0, e⟩ | ⟨h0, c, ty, h1, h2, h3, h4⟩
      · exact .inl ⟨h0, by rw [e]; simp⟩
      · refine .inr ⟨h0, c, ty, h1, h2, ?_, fun i a x hi hx => h4 i a x ?_ hx⟩
        · rw [flat_take, List.length_take]; omega
        · rw [flat_take, List.getElem?_take] at hi
          split at hi
          · exact hi
          · cases hi
    · rw [put_ne _ _ hjk] at hb; exact h.blk j b hb

theorem fin_own {base : Nat} {oth : List AV} {m m2 : Mem} {t : Ty} {k j n : Nat} {c : Option Nat} {l : List (El t)} (hb : mget m k = some (.row t l))
    (hj : (k = j ∧ mget m2 = put (mget m) j (some (.row t (l.take n)))) ∨ (freshB base j m oth = true ∧ mget m2 = put (put (mget m) k none) j (some (.row t (l.take n))))) (x : Value) :
    FinOk base oth m m2 (fun w g lim => Rep w g lim (.own t k 0 n c) x) (fun w g lim => Rep w g lim (.own t j 0 n none) x) := by
  refine ⟨fun i cs hi => ⟨cs, ?_⟩, ?_⟩
  · have hik : k ≠ i := fun e => by rw [e, hi] at hb; cases hb
    rcases hj with ⟨rfl, e⟩ | ⟨hf, e⟩
    · rw [e, put_ne _ _ hik]; exact hi
    · obtain ⟨f1, f2, f3, f4, f5⟩ := freshB_ok hf
      rw [e, put_ne _ _ (fun e => by rw [e, hi] at f3; cases f3), put_ne _ _ hik]; exact hi
  intro w g lim hm
  have hc := hm.cut k hb n
  rcases hj with ⟨rfl, e⟩ | ⟨hf, e⟩
  · rw [e]
    exact ⟨g, hc, LeG.refl base g, fun h => Le.cap _ _ _ _ h, fun _ _ _ h => h, fun _ _ _ => ⟨rfl, rfl⟩⟩
  · obtain ⟨f1, f2, f3, f4, f5⟩ := freshB_ok hf
    have hren := hc.ren (j := j) (.inr f1) (k := k) (bl := .row t (l.take n)) (put_self _ _ _) (fun i b hbi => by
      simp only [put] at hbi
      split at hbi
      · cases hbi; rfl
      · exact f4 i b hbi)
    have e2 : put (put (put (mget m) k (some (.row t (l.take n)))) k none) j (some (.row t (l.take n))) = mget m2 := by
      rw [e]; funext i; simp only [put]; split
      · rfl
      · split <;> rfl
    rw [e2] at hren
    refine ⟨g.ren k j, hren, LeG.ren f2, fun h => ?_, fun u y hu hr => ?_, fun i cs hi => ?_⟩
    · have hal : g.al k := (hm.al k).2 (by simp [hb])
      cases h with
      | own _ _ _ _ b cap _ hk hcc hc2 hh =>
        obtain ⟨rfl, h9⟩ := hh hal
        exact .own t j 0 n _ cap none (.inr f1) hcc (fun n h => by cases h) fun _ => ⟨by simp [G.ren, G.bind], by simp [G.ren, G.bind, G.kill]; simpa using h9⟩
      | ownE _ _ _ _ ad hk hcc => exact .ownE t j 0 none ad (.inr f1) (fun n h => by cases h)
    · have := (RepL.ren (w := w) (g := g) (lim := lim) (k := k) (j := j) (f := [u]) (xs := #[y]) ⟨rfl, fun i c x hc hx => by
        cases i with
        | zero => simp at hc hx; subst hc; subst hx; exact hr
        | succ i => simp at hc⟩ (by simp only [menL]; rw [menL_mem f5 hu]))
      exact this.2 0 u y (by simp) (by simp)
    · have hij : i ≠ j := fun e => by rw [e, f3] at hi; cases hi
      exact ⟨by simp [G.ren, G.bind, G.kill, hij], by simp [G.ren, G.bind, G.kill, hij]⟩

theorem fin_birth {base : Nat} {oth : List AV} {m m2 : Mem} {t : Ty} {j : Nat} (hf : freshB base j m oth = true) (e : mget m2 = put (mget m) j (some (.row t []))) (ad : Option Addr) (V : World → G → Nat → Prop) :
    FinOk base oth m m2 V (fun w g lim => Rep w g lim (.own t j 0 0 none) (.slice ad 0 0)) := by
  obtain ⟨f1, f2, f3, f4, f5⟩ := freshB_ok hf
  refine ⟨fun i cs hi => ⟨cs, ?_⟩, ?_⟩
  · rw [e, put_ne _ _ (fun e => by rw [e, hi] at f3; cases f3)]; exact hi
  intro w g lim hm
  have hb := hm.birth t (.inr f1) f4
  rw [← e] at hb
  refine ⟨g.bind j 0 0, hb, LeG.bind base g f2 _ _, fun _ => .ownE t j 0 none ad (.inr f1) (fun n h => by cases h), fun u y hu hr => hr.bind (menL_mem f5 hu) fun _ _ => rfl, fun i cs hi => ?_⟩
  have hij : i ≠ j := fun e => by rw [e, f3] at hi; cases hi
  exact ⟨by simp [G.bind, hij], by simp [G.bind, hij]⟩

theorem fin_vec {base : Nat} {oth : List AV} {m m2 : Mem} {t : Ty} {k off n : Nat} {c : Option Nat} {l : List (El t)} (hb : mget m k = some (.row t l)) (hl : off + n ≤ l.length)
    (e : mget m2 = put (mget m) k none) (x : Value) :
    FinOk base oth m m2 (fun w g lim => Rep w g lim (.own t k off n c) x) (fun w g lim => Rep w g lim (.vec t ((l.drop off).take n)) x) := by
  refine ⟨fun i cs hi => ⟨cs, ?_⟩, ?_⟩
  · rw [e, put_ne _ _ (fun e => by rw [e, hi] at hb; cases hb)]; exact hi
  intro w g lim hm
  have hal : g.al k := (hm.al k).2 (by simp [hb])
  have hf := hm.freeze hal
  rw [← e] at hf
  exact ⟨g.freeze k, hf, LeG.freeze base g k, fun h => h.toVec hm hb hl, fun u y _ hr => hr.freeze k, fun _ _ _ => ⟨rfl, rfl⟩⟩

theorem FinOk.repv {base : Nat} {oth : List AV} {m : Mem} {v e : AV} (h : Le v e) (x : Value) : FinOk base oth m m (fun w g lim => Rep w g lim v x) (fun w g lim => Rep w g lim e x) :=
  FinOk.same fun _ _ _ hr => h _ _ _ _ hr

theorem nbz {a : Nat} (h : Nat.beq a 0 = true) : a = 0 := nbt.1 h

theorem fin_nil {base : Nat} {tgt : Mem} {oth : List AV} {m : Mem} {t2 : Ty} {j o2 n2 : Nat} {K : Mem → Prop}
    (h : memK tgt j fun b2 => match b2 with
        | .box _ => False
        | .row t3 l2 => asK t3 t2 l2 fun l2 => (n2 = 0 ∧ l2 = []) ∧ match freshB base j m oth with
          | true => match Nat.beq o2 0 with | true => msetC m j (.row t2 l2) K | false => False
          | false => False) :
    ∃ m2, K m2 ∧ ∀ (ad : Option Addr) (V : World → G → Nat → Prop), FinOk base oth m m2 V (fun w g lim => Rep w g lim (.own t2 j o2 n2 none) (.slice ad 0 0)) := by
  obtain ⟨b2, hb2, ha⟩ := memK_ok h
  clear h
  cases b2 with
  | box _ => exact ha.elim
  | row t3 l2 =>
    simp only at ha
    obtain ⟨e1, hc⟩ := asK_ok ha
    clear ha
    subst e1
    obtain ⟨⟨rfl, e2⟩, hd⟩ := hc
    cases hf : freshB base j m oth with
    | false => rw [hf] at hd; exact hd.elim
    | true =>
      rw [hf] at hd
      simp only at hd
      cases ho : Nat.beq o2 0 with
      | false => rw [ho] at hd; exact hd.elim
      | true =>
        rw [ho] at hd
        have := nbz ho
        subst this
        simp only at hd
        rw [msetC_eq] at hd
        have e3 : l2 = [] := e2
        subst e3
        exact ⟨_, hd, fun ad V => fin_birth hf (by rw [mget_mset']) ad V⟩

mutual
theorem finV_ok {base : Nat} {tgt : Mem} : ∀ (v : AV) {oth : List AV} {e : AV} {m : Mem} {K : Mem → Prop}, finV base tgt oth v e m K →
    ∃ m2, K m2 ∧ ∀ x, FinOk base oth m m2 (fun w g lim => Rep w g lim v x) (fun w g lim => Rep w g lim e x)
  | .own t k off n c, oth, e, m, K, h => by
    cases e <;> simp only [finV] at h <;> try exact h.elim
    case top => exact ⟨m, h, fun x => FinOk.same fun _ _ _ _ => .top x⟩
    case own t2 j o2 n2 c2 =>
      cases c2 with
      | some _ => exact h.elim
      | none =>
      simp only at h
      cases h1 : Nat.beq o2 0 with
      | false => rw [h1] at h; exact h.elim
      | true =>
      rw [h1] at h
      cases h2 : Nat.beq off 0 with
      | false => rw [h2] at h; exact h.elim
      | true =>
      rw [h2] at h
      cases h3 : tyB t t2 with
      | false => rw [h3] at h; exact h.elim
      | true =>
      rw [h3] at h
      have e1 := nbz h1; have e2 := nbz h2; have e3 := tyB_ok h3
      subst e1; subst e2; subst e3
      simp only at h
      obtain ⟨b, hb, ha⟩ := memK_ok h
      clear h
      cases b with
      | box _ => exact ha.elim
      | row t' l =>
      simp only at ha
      cases h4 : tyB t' t with
      | false => rw [h4] at ha; exact ha.elim
      | true =>
      rw [h4] at ha
      have e4 := tyB_ok h4
      subst e4
      simp only at ha
      obtain ⟨b2, hb2, hc⟩ := memK_ok ha
      clear ha
      cases b2 with
      | box _ => exact hc.elim
      | row t3 l2 =>
      simp only at hc
      obtain ⟨e5, hd⟩ := asK_ok hc
      clear hc
      obtain ⟨e6, he⟩ := asK_ok hd
      clear hd
      subst e6
      obtain ⟨⟨rfl, hle, hl⟩, hf⟩ := he
      have hl' : l.take n = l2 := hl
      subst hl'
      cases h5 : Nat.beq k j with
      | true =>
        rw [h5] at hf
        have e7 := nbt.1 h5
        subst e7
        simp only at hf
        rw [msetC_eq] at hf
        exact ⟨_, hf, fun x => fin_own hb (.inl ⟨rfl, by rw [mget_mset']⟩) x⟩
      | false =>
        rw [h5] at hf
        simp only at hf
        cases h6 : freshB base j m oth with
        | false => rw [h6] at hf; exact hf.elim
        | true =>
          rw [h6] at hf
          simp only at hf
          rw [mdelC_eq, msetC_eq] at hf
          exact ⟨_, hf, fun x => fin_own hb (.inr ⟨h6, by rw [mget_mset', mget_mdel']⟩) x⟩
    case vec t2 l2 =>
      cases h3 : tyB t t2 with
      | false => rw [h3] at h; exact h.elim
      | true =>
      rw [h3] at h
      have e3 := tyB_ok h3
      subst e3
      simp only at h
      obtain ⟨b, hb, ha⟩ := memK_ok h
      clear h
      cases b with
      | box _ => exact ha.elim
      | row t' l =>
      simp only at ha
      cases h4 : tyB t' t with
      | false => rw [h4] at ha; exact ha.elim
      | true =>
      rw [h4] at ha
      have e4 := tyB_ok h4
      subst e4
      simp only at ha
      obtain ⟨e5, ⟨hle, hl⟩, hc⟩ := asK_ok ha
      clear ha
      have hl' : (l.drop off).take n = l2 := hl
      subst hl'
      rw [mdelC_eq] at hc
      exact ⟨_, hc, fun x => fin_vec hb hle (by rw [mget_mdel']) x⟩
  | .emp t, oth, e, m, K, h => by
    cases e <;> simp only [finV] at h <;> try exact h.elim
    case top => exact ⟨m, h, fun x => FinOk.same fun _ _ _ _ => .top x⟩
    case emp t2 => exact ⟨m, h, fun x => FinOk.repv (fun _ _ _ _ hr => by cases hr; exact .emp _ _) x⟩
    case vec t2 l2 =>
      obtain ⟨rfl, h⟩ := h
      exact ⟨m, h, fun x => FinOk.repv (fun _ _ _ _ hr => by cases hr; exact .vecE _ _ _) x⟩
    case own t2 j o2 n2 c2 =>
      cases c2 with
      | some _ => exact h.elim
      | none =>
        obtain ⟨m2, hK, hh⟩ := fin_nil h
        refine ⟨m2, hK, fun x => ⟨(hh none (fun _ _ _ => True)).1, fun w g lim hm => ?_⟩⟩
        obtain ⟨g2, q1, q2, q3, q4⟩ := (hh none (fun _ _ _ => True)).2 w g lim hm
        by_cases hx : ∃ ad, x = .slice ad 0 0
        · obtain ⟨ad, rfl⟩ := hx
          exact (hh ad (fun w g lim => Rep w g lim (.emp t) (.slice ad 0 0))).2 w g lim hm
        · exact ⟨g2, q1, q2, fun hr => by cases hr with | emp _ ad => exact absurd ⟨ad, rfl⟩ hx, q4⟩
  | .lit x0, oth, e, m, K, h => by
    cases e <;> simp only [finV] at h <;> try exact h.elim
    case top => exact ⟨m, h, fun x => FinOk.same fun _ _ _ _ => .top x⟩
    case lit y =>
      obtain ⟨rfl, h⟩ := h
      exact ⟨m, h, fun x => FinOk.repv (Le.refl _) x⟩
    case tt =>
      obtain ⟨rfl, h⟩ := h
      exact ⟨m, h, fun x => FinOk.repv (fun _ _ _ _ hr => by cases hr; exact .tt) x⟩
    case ff =>
      obtain ⟨rfl, h⟩ := h
      exact ⟨m, h, fun x => FinOk.repv (fun _ _ _ _ hr => by cases hr; exact .ff) x⟩
    case bl p q =>
      split at h
      · obtain ⟨⟨h1, h2⟩, h⟩ := h
        exact ⟨m, h, fun x => FinOk.repv (fun _ _ _ _ hr => by cases hr; exact .bl _ _ _ h1 h2) x⟩
      · exact h.elim
    case emp t2 =>
      split at h
      · exact ⟨m, h, fun x => FinOk.repv (fun _ _ _ _ hr => by cases hr; exact .emp _ _) x⟩
      · exact h.elim
    case vec t2 l2 =>
      split at h
      · obtain ⟨rfl, h⟩ := h
        exact ⟨m, h, fun x => FinOk.repv (fun _ _ _ _ hr => by cases hr; exact .vecE _ _ _) x⟩
      · exact h.elim
    case own t2 j o2 n2 c2 =>
      split at h
      · cases c2 with
        | some _ => exact h.elim
        | none =>
          obtain ⟨m2, hK, hh⟩ := fin_nil h
          refine ⟨m2, hK, fun x => ⟨(hh none (fun _ _ _ => True)).1, fun w g lim hm => ?_⟩⟩
          obtain ⟨g2, q1, q2, q3, q4⟩ := (hh none (fun w g lim => Rep w g lim (.lit (.slice none 0 0)) x)).2 w g lim hm
          exact ⟨g2, q1, q2, fun hr => by have := q3 hr; cases hr; exact this, q4⟩
      · exact h.elim
  | .vec t l, oth, e, m, K, h => by
    cases e <;> simp only [finV] at h <;> try exact h.elim
    case top => exact ⟨m, h, fun x => FinOk.same fun _ _ _ _ => .top x⟩
    case vec t2 l2 =>
      obtain ⟨e1, hl, hK⟩ := asK_ok h
      clear h
      subst e1
      have hl' : l = l2 := hl
      subst hl'
      exact ⟨m, hK, fun x => FinOk.repv (Le.refl _) x⟩
  | .tt, oth, e, m, K, h => by
    cases e <;> simp only [finV] at h <;> try exact h.elim
    case top => exact ⟨m, h, fun x => FinOk.same fun _ _ _ _ => .top x⟩
    case tt => exact ⟨m, h, fun x => FinOk.repv (Le.refl _) x⟩
    case lit y =>
      obtain ⟨rfl, h⟩ := h
      exact ⟨m, h, fun x => FinOk.repv (fun _ _ _ _ hr => by cases hr; exact .lit _) x⟩
    case bl p q =>
      exact ⟨m, h.2, fun x => FinOk.repv (fun _ _ _ _ hr => by cases hr; exact .bl _ _ _ (fun _ => h.1) (fun h => by cases h)) x⟩
  | .ff, oth, e, m, K, h => by
    cases e <;> simp only [finV] at h <;> try exact h.elim
    case top => exact ⟨m, h, fun x => FinOk.same fun _ _ _ _ => .top x⟩
    case ff => exact ⟨m, h, fun x => FinOk.repv (Le.refl _) x⟩
    case lit y =>
      obtain ⟨rfl, h⟩ := h
      exact ⟨m, h, fun x => FinOk.repv (fun _ _ _ _ hr => by cases hr; exact .lit _) x⟩
    case bl p q =>
      exact ⟨m, h.2, fun x => FinOk.repv (fun _ _ _ _ hr => by cases hr; exact .bl _ _ _ (fun h => by cases h) (fun _ => h.1)) x⟩
  | .bl p q, oth, e, m, K, h => by
    cases e <;> simp only [finV] at h <;> try exact h.elim
    case top => exact ⟨m, h, fun x => FinOk.same fun _ _ _ _ => .top x⟩
    case lit y =>
      split at h
      · rename_i b
        obtain ⟨⟨h1, h2⟩, h⟩ := h
        refine ⟨m, h, fun x => FinOk.repv (fun _ _ _ _ hr => ?_) x⟩
        cases hr with
        | bl _ _ b2 hp hq =>
          cases b2 with
          | true => rw [h1 (hp rfl)]; exact .lit _
          | false => rw [h2 (hq rfl)]; exact .lit _
      · exact h.elim
    case bl p' q' =>
      obtain ⟨⟨h1, h2⟩, h⟩ := h
      exact ⟨m, h, fun x => FinOk.repv (fun _ _ _ _ hr => by cases hr with | bl _ _ b2 hp hq => exact .bl _ _ _ (fun e => h1 (hp e)) (fun e => h2 (hq e))) x⟩
  | .ptr k o, oth, e, m, K, h => by
    cases e <;> simp only [finV] at h <;> try exact h.elim
    case top => exact ⟨m, h, fun x => FinOk.same fun _ _ _ _ => .top x⟩
    case ptr k2 o2 =>
      cases h1 : Nat.beq k k2 with
      | false => rw [h1] at h; exact h.elim
      | true =>
      rw [h1] at h
      simp only at h
      cases h2 : Nat.beq o o2 with
      | false => rw [h2] at h; exact h.elim
      | true =>
      rw [h2] at h
      have e1 := nbt.1 h1; have e2 := nbt.1 h2
      subst e1; subst e2
      exact ⟨m, h, fun x => FinOk.repv (Le.refl _) x⟩
  | .agg cs, oth, e, m, K, h => by
    cases e <;> simp only [finV] at h <;> try exact h.elim
    case top => exact ⟨m, h, fun x => FinOk.same fun _ _ _ _ => .top x⟩
    case agg es =>
      obtain ⟨m2, hK, hh⟩ := finL_ok cs h
      refine ⟨m2, hK, fun x => ⟨(hh #[]).1, fun w g lim hm => ?_⟩⟩
      by_cases hx : ∃ xs, x = .agg xs
      · obtain ⟨xs, rfl⟩ := hx
        obtain ⟨g2, q1, q2, q3, q4⟩ := (hh xs).2 w g lim hm
        exact ⟨g2, q1, q2, fun hr => by cases hr with | agg _ _ hl hx => have := q3 ⟨hl, hx⟩; exact .agg _ _ this.1 this.2, q4⟩
      · obtain ⟨g2, q1, q2, q3, q4⟩ := (hh #[]).2 w g lim hm
        exact ⟨g2, q1, q2, fun hr => by cases hr with | agg _ xs hl hh => exact absurd ⟨xs, rfl⟩ hx, q4⟩
  | .tup cs, oth, e, m, K, h => by
    cases e <;> simp only [finV] at h <;> try exact h.elim
    case top => exact ⟨m, h, fun x => FinOk.same fun _ _ _ _ => .top x⟩
    case tup es =>
      obtain ⟨m2, hK, hh⟩ := finL_ok cs h
      refine ⟨m2, hK, fun x => ⟨(hh #[]).1, fun w g lim hm => ?_⟩⟩
      by_cases hx : ∃ xs, x = .tuple xs
      · obtain ⟨xs, rfl⟩ := hx
        obtain ⟨g2, q1, q2, q3, q4⟩ := (hh xs).2 w g lim hm
        exact ⟨g2, q1, q2, fun hr => by cases hr with | tup _ _ hl hx => have := q3 ⟨hl, hx⟩; exact .tup _ _ this.1 this.2, q4⟩
      · obtain ⟨g2, q1, q2, q3, q4⟩ := (hh #[]).2 w g lim hm
        exact ⟨g2, q1, q2, fun hr => by cases hr with | tup _ xs hl hh => exact absurd ⟨xs, rfl⟩ hx, q4⟩
  | .top, oth, e, m, K, h => by
    cases e <;> simp only [finV] at h <;> first | exact ⟨m, h, fun x => FinOk.same fun _ _ _ _ => .top x⟩ | (obtain ⟨e1, h⟩ := h; rw [← e1]; exact ⟨m, h, fun x => FinOk.repv (Le.refl _) x⟩)
  | .rptr _ _ _ _, oth, e, m, K, h => by
    cases e <;> simp only [finV] at h <;> first | exact ⟨m, h, fun x => FinOk.same fun _ _ _ _ => .top x⟩ | (obtain ⟨e1, h⟩ := h; rw [← e1]; exact ⟨m, h, fun x => FinOk.repv (Le.refl _) x⟩)
  | .vptr _ _ _ _, oth, e, m, K, h => by
    cases e <;> simp only [finV] at h <;> first | exact ⟨m, h, fun x => FinOk.same fun _ _ _ _ => .top x⟩ | (obtain ⟨e1, h⟩ := h; rw [← e1]; exact ⟨m, h, fun x => FinOk.repv (Le.refl _) x⟩)
  | .clo _ _ _, oth, e, m, K, h => by
    cases e <;> simp only [finV] at h <;> first | exact ⟨m, h, fun x => FinOk.same fun _ _ _ _ => .top x⟩ | (obtain ⟨e1, h⟩ := h; rw [← e1]; exact ⟨m, h, fun x => FinOk.repv (Le.refl _) x⟩)
theorem finL_ok {base : Nat} {tgt : Mem} : ∀ (cs : List AV) {oth es : List AV} {m : Mem} {K : Mem → Prop}, finL base tgt oth cs es m K →
    ∃ m2, K m2 ∧ ∀ xs : Array Value, FinOk base oth m m2 (fun w g lim => RepL w g lim cs xs) (fun w g lim => RepL w g lim es xs)
  | [], oth, es, m, K, h => by
    cases es with
    | nil => exact ⟨m, by simpa [finL] using h, fun xs => FinOk.same fun _ _ _ h => h⟩
    | cons _ _ => simp [finL] at h
  | c :: r, oth, es, m, K, h => by
    cases es with
    | nil => simp [finL] at h
    | cons e es =>
      simp only [finL] at h
      obtain ⟨m1, ha, h1⟩ := finV_ok c h
      obtain ⟨m2, hK, h2⟩ := finL_ok r ha
      refine ⟨m2, hK, fun xs => ⟨fun k cs hk => by
        obtain ⟨cs', h3⟩ := (h1 undef).1 k cs hk
        exact (h2 #[]).1 k cs' h3, fun w g lim hm => ?_⟩⟩
      obtain ⟨x0, ys, hxs⟩ : ∃ x0 ys, xs = #[] ∨ xs = (x0 :: ys : List Value).toArray := by
        cases hx : xs.toList with
        | nil => exact ⟨undef, [], .inl (by rw [← Array.toArray_toList (xs := xs), hx])⟩
        | cons x ys => exact ⟨x, ys, .inr (by rw [← Array.toArray_toList (xs := xs), hx])⟩
      obtain ⟨g1, p1, p2, p3, p4, p5⟩ := (h1 x0).2 w g lim hm
      obtain ⟨g2, q1, q2, q3, q4, q5⟩ := (h2 ys.toArray).2 w g1 lim p1
      refine ⟨g2, q1, p2.trans q2, fun hr => ?_, fun u y hu hr => q4 u y (List.mem_cons_of_mem _ hu) (p4 u y (List.mem_append_right _ hu) hr), fun k cs hk => by
        obtain ⟨cs', h3⟩ := (h1 undef).1 k cs hk
        obtain ⟨a1, a2⟩ := p5 k cs hk
        obtain ⟨b1, b2⟩ := q5 k cs' h3
        exact ⟨b1.trans a1, b2.trans a2⟩⟩
      rcases hxs with rfl | rfl
      · have := hr.1; simp at this
      · have r0 := p3 (hr.2 0 c x0 (by simp) (by simp))
        have r1 := q4 e x0 (by simp) r0
        have rr : RepL w g1 lim r ys.toArray := ⟨by have := hr.1; simpa using this, fun i c2 x2 hc hx => p4 c2 x2 (List.mem_append_left _ (List.mem_of_getElem? hc)) (hr.2 (i + 1) c2 x2 (by simpa using hc) (by simpa using hx))⟩
        exact RepL.cons0 r1 (q3 rr)
end

/-- Own memory, against what is said of it. -/
def finM (base : Nat) (tgt : Mem) (oth : List AV) : Mem → Mem → (Mem → Prop) → Prop
  | [], m, K => K m
  | (k, b) :: r, m, K => match b with
    | .row t2 l2 => memK m k fun b' => match b' with
      | .row t l => asK t t2 l fun l => l = l2 ∧ finM base tgt oth r m K
      | .box _ => False
    | .box es => memK m k fun b' => match b' with
      | .row _ _ => False
      | .box cs => finL base tgt oth cs es m fun m => memK m k fun b2 => match b2 with
        | .row _ _ => False
        | .box _ => msetC m k (.box es) fun m => finM base tgt oth r m K
def eqMK (m : Mem) : Mem → Prop
  | [] => True
  | (k, b) :: r => (memK m k fun b' => b' = b) ∧ eqMK m r

theorem eqMK_ok {m : Mem} : ∀ {m1 : Mem}, eqMK m m1 → ∀ k b, mget m1 k = some b → mget m k = some b
  | [], _, k, b, hb => by simp [mget] at hb
  | (i, c) :: r, h, k, b, hb => by
    simp only [mget] at hb
    split at hb
    · rename_i hi
      cases hb
      have := nbt.1 hi
      subst this
      obtain ⟨b', h1, h2⟩ := memK_ok h.1
      have h2' : b' = c := h2
      rw [h1, h2']
    · exact eqMK_ok h.2 k b hb

theorem FinOk.trans {base : Nat} {oth : List AV} {m m1 m2 : Mem} {V V' V'' : World → G → Nat → Prop} (h : FinOk base oth m m1 V V') (h' : FinOk base oth m1 m2 V' V'') : FinOk base oth m m2 V V'' := by
  refine ⟨fun k cs hk => by
    obtain ⟨cs', h3⟩ := h.1 k cs hk
    exact h'.1 k cs' h3, fun w g lim hm => ?_⟩
  obtain ⟨g1, p1, p2, p3, p4, p5⟩ := h.2 w g lim hm
  obtain ⟨g2, q1, q2, q3, q4, q5⟩ := h'.2 w g1 lim p1
  refine ⟨g2, q1, p2.trans q2, fun hv => q3 (p3 hv), fun u y hu hr => q4 u y hu (p4 u y hu hr), fun k cs hk => ?_⟩
  obtain ⟨cs', h3⟩ := h.1 k cs hk
  obtain ⟨a1, a2⟩ := p5 k cs hk
  obtain ⟨b1, b2⟩ := q5 k cs' h3
  exact ⟨b1.trans a1, b2.trans a2⟩

theorem fin_box {base : Nat} {oth : List AV} {m m1 : Mem} {k : Nat} {cs cs2 es : List AV} (hb : mget m k = some (.box cs)) (hb1 : mget m1 k = some (.box cs2))
    (hh : ∀ xs : Array Value, FinOk base oth m m1 (fun w g lim => RepL w g lim cs xs) (fun w g lim => RepL w g lim es xs)) : FinOk base oth m (mset m1 k (.box es)) (fun _ _ _ => True) (fun _ _ _ => True) := by
  refine ⟨fun i ds hi => ?_, fun w g lim hm => ?_⟩
  · rw [mget_mset]
    by_cases h : k = i
    · exact ⟨es, by simp [h]⟩
    · rw [if_neg h]; exact (hh #[]).1 i ds hi
  obtain ⟨h0, c, ty, b1, b2, b3, b4⟩ := hm.blk k _ hb
  obtain ⟨g1, p1, p2, p3, p4, p5⟩ := (hh c).2 w g lim hm
  have hr := p3 ⟨by omega, b4⟩
  refine ⟨g1, ?_, p2, fun _ => trivial, p4, p5⟩
  obtain ⟨e1, e2⟩ := p5 k cs hb
  have hal : g1.al k := (p1.al k).2 (by simp [hb1])
  rw [mget_mset']
  refine p1.write hal (by omega) (.box es) (Nat.le_refl _) (fun _ _ _ => rfl) ⟨by omega, c, ty, by rw [e1]; exact b1, by omega, by have := hr.1; omega, hr.2⟩

theorem finM_ok {base : Nat} {tgt : Mem} {oth : List AV} : ∀ (r : Mem) {m : Mem} {K : Mem → Prop}, finM base tgt oth r m K →
    ∃ m2, K m2 ∧ FinOk base oth m m2 (fun _ _ _ => True) (fun _ _ _ => True)
  | [], m, K, h => ⟨m, h, FinOk.same fun _ _ _ h => h⟩
  | (k, b) :: r, m, K, h => by
    cases b with
    | row t2 l2 =>
      simp only [finM] at h
      obtain ⟨b', hb, ha⟩ := memK_ok h
      clear h
      cases b' with
      | box _ => exact ha.elim
      | row t l =>
        simp only at ha
        obtain ⟨e, hc⟩ := asK_ok ha
        exact finM_ok r hc.2
    | box es =>
      simp only [finM] at h
      obtain ⟨b', hb, ha⟩ := memK_ok h
      clear h
      cases b' with
      | row _ _ => exact ha.elim
      | box cs =>
        simp only at ha
        obtain ⟨m1, hc, hh⟩ := finL_ok cs ha
        clear ha
        obtain ⟨b2, hb2, hd⟩ := memK_ok hc
        clear hc
        cases b2 with
        | row _ _ => exact hd.elim
        | box cs2 =>
          simp only at hd
          rw [msetC_eq] at hd
          obtain ⟨m2, hK, h2⟩ := finM_ok r hd
          exact ⟨m2, hK, (fin_box hb hb2 hh).trans h2⟩

theorem MSim.only {w : World} {g : G} {lim : Nat} {m m1 : Mem} (h : MSim w g lim (mget m)) (he : ∀ k b, mget m1 k = some b → mget m k = some b) :
    ∃ g', MSim w g' lim (mget m1) ∧ (∀ base, LeG base g g') ∧ ∀ v x, Rep w g lim v x → Rep w g' lim v x := by
  let g' : G := { g with al := fun k => (mget m1 k).isSome }
  have hal : ∀ k, g'.al k → g.al k := fun k hk => by
    obtain ⟨b, hb⟩ := Option.isSome_iff_exists.1 hk
    exact (h.al k).2 (by simp [he k b hb])
  have hrep : ∀ v x, Rep w g lim v x → Rep w g' lim v x := fun v x hv => hv.mono ⟨fun _ h => h, fun _ _ => rfl⟩ (Nat.le_refl _) fun k _ ha => ⟨hal k ha, rfl, rfl⟩
  refine ⟨g', ⟨fun k => Iff.rfl, fun k hk => h.lt k (hal k hk), fun k hk => h.nro k (hal k hk), fun i j hi hj => h.inj i j (hal i hi) (hal j hj), fun k b hb => ?_, h.rolt, fun b hb => ⟨(h.nof b hb).1, (h.nof b hb).2.1, fun k hk => (h.nof b hb).2.2 k (hal k hk)⟩⟩, fun base => ⟨fun _ h => h, fun _ h => h, fun k _ ha => ⟨hal k ha, rfl, rfl⟩⟩, hrep⟩
  exact (h.blk k b (he k b hb)).mono' ⟨fun _ h => h, fun _ _ => rfl⟩ (Nat.le_refl _) (fun _ => rfl) fun i _ _ ha => ⟨hal i ha, rfl, rfl⟩

/-- A state against what is said of it. -/
def finK (base : Nat) (cs : List AV) (m : Mem) (es : List AV) (m1 : Mem) : Prop :=
  finL base m1 [] cs es m fun m => finM base m1 es m1 m fun m => eqMK m m1
theorem finK_ok {base : Nat} {cs es : List AV} {m m1 : Mem} (h : finK base cs m es m1) {w : World} {g : G} {lim : Nat} (hm : MSim w g lim (mget m)) (xs : Array Value) (hr : RepL w g lim cs xs) :
    ∃ g', MSim w g' lim (mget m1) ∧ LeG base g g' ∧ RepL w g' lim es xs := by
  obtain ⟨m2, h2, q2⟩ := finL_ok cs h
  obtain ⟨m3, h3, q3⟩ := finM_ok m1 h2
  obtain ⟨g2, a1, a2, a3, a4⟩ := (q2 xs).2 w g lim hm
  obtain ⟨g3, b1, b2, b3, b4, _⟩ := q3.2 w g2 lim a1
  obtain ⟨g4, c1, c2, c3⟩ := b1.only (eqMK_ok h3)
  have hr2 := a3 hr
  exact ⟨g4, c1, (a2.trans b2).trans (c2 base), ⟨hr2.1, fun i c x hc hx => c3 _ _ (b4 c x (List.mem_of_getElem? hc) (hr2.2 i c x hc hx))⟩⟩

/-- What stands behind a function's body: a result and memory that are matched. -/
def endF (P : Program) (lim : Nat) (rs : List ResultVar) (v : AV) (m1 : Mem) : Post := fun e f m => match e with
  | .normal => resK P f m rs fun v' => finK lim [v'] m [v] m1
  | .ret => resK P f m rs fun v' => finK lim [v'] m [v] m1
  | .exit _ => False

theorem endF_ok {P : Program} {lim L' : Nat} {fn : Func} {f : List AV} {m : Mem} {v : AV} {m1 : Mem} (hv : scA lim v = true) (hm1 : scM lim m1 = true) (h : resK P f m fn.results.toList fun v' => finK lim [v'] m [v] m1) {w : World} {g : G} {a : Act} (hs : Sim w g L' f (mget m) a) :
    ∃ x g', (results fn a.tmps).run P w = .ok x w ∧ Rep w g' lim v x ∧ MSim w g' lim (mget m1) ∧ LeG lim g g' := by
  obtain ⟨v', x, h, e1, e2⟩ := resK_ok h hs
  obtain ⟨g', h1, h2, h3⟩ := finK_ok h hs.me #[x] ⟨rfl, fun i c y hc hy => by
    cases i with
    | zero => simp at hc hy; subst hc; subst hy; exact e2
    | succ i => simp at hc⟩
  exact ⟨x, g', e1, (h3.2 0 v x (by simp) (by simp)).lower hv, h1.lower hm1, h2⟩

theorem calls_of_evF {P : Program} {C : Cfg2} (hC : Cfg2Ok P C) {fid : FuncId} {fn : Func} {c : Code} (hf : P.funcs[fid]? = some fn) (hb : fn.body = some c) {base nt : Nat} {args : List AV} {m m1 : Mem} {v : AV}
    (hn : fn.ntmps - args.length = nt) (hv : scA base v = true) (hm1 : scM base m1 = true)
    (h : ev P C base c (endF P base fn.results.toList v m1) (args ++ undefs nt) m) {w : World} {g : G} {vs : Array Value} (hm : MSim w g base (mget m)) (ha : RepL w g base args vs) :
    Calls P fid vs w fun e w' => ∃ x g', e = .returned x ∧ Rep w' g' base v x ∧ MSim w' g' base (mget m1) ∧ Tr g w w' ∧ LeG base g g' := by
  refine calls_of_wp hf hb ?_
  have hsz : args.length = vs.size := ha.1
  have hs : Sim w g (base + L) (args ++ undefs nt) (mget m) { tmps := vs ++ Array.replicate (fn.ntmps - vs.size) undef, defers := [] } := by
    refine ⟨⟨by rw [undefs_eq]; simp [hsz, ← hn], fun i c x hc hx => ?_⟩, rfl, hm.raise (Nat.le_add_right _ _)⟩
    by_cases hi : i < args.length
    · rw [List.getElem?_append_left hi] at hc
      rw [Array.getElem?_append_left (by omega)] at hx
      exact (ha.2 i c x hc hx).mono ⟨fun _ h => h, fun _ _ => rfl⟩ (Nat.le_add_right _ _) fun _ _ h => ⟨h, rfl, rfl⟩
    · rw [List.getElem?_append_right (by omega), undefs_eq, List.getElem?_replicate] at hc
      rw [Array.getElem?_append_right (by omega), Array.getElem?_replicate] at hx
      split at hc
      · split at hx
        · simp at hc hx; subst hc; subst hx; exact .lit _
        · cases hx
      · cases hc
  refine Code.wp_mono (fun e a' w' hh => ?_) ((ev_ok hC c h).go w g _ hs)
  obtain ⟨ae, f', m', g', rfl, hq, hs', ht, hl⟩ := hh
  cases ae with
  | normal =>
    obtain ⟨x, g2, e1, e2, e3, e4⟩ := endF_ok hv hm1 hq hs'
    exact ⟨hs'.df, x, e1, x, g2, rfl, e2, e3, ht, hl.trans e4⟩
  | ret =>
    obtain ⟨x, g2, e1, e2, e3, e4⟩ := endF_ok hv hm1 hq hs'
    exact ⟨hs'.df, x, e1, x, g2, rfl, e2, e3, ht, hl.trans e4⟩
  | exit i => exact hq.elim

/-- **A CONTRACT OF A FUNCTION OF DATA ALONE.** -/
theorem Api.of_fin {P : Program} {C : Cfg2} (hC : Cfg2Ok P C) {fid : FuncId} {fn : Func} {c : Code} (hf : P.funcs[fid]? = some fn) (hb : fn.body = some c) {nt : Nat} {args : List AV} {v : AV}
    (hn : fn.ntmps - args.length = nt) (hv : scA 0 v = true) (h : ev P C 0 c (endF P 0 fn.results.toList v []) (args ++ undefs nt) []) : Api P fid args v :=
  fun _ _ _ hm ha => calls_of_evF hC hf hb hn hv rfl h hm ha

/-- **A CONTRACT OF A FUNCTION THAT TURNS MEMORY.** -/
theorem Ev1.of_fin {P : Program} {C : Cfg2} (hC : Cfg2Ok P C) {fid : FuncId} {fn : Func} {c : Code} (hf : P.funcs[fid]? = some fn) (hb : fn.body = some c) {nt : Nat} {args : List AV} {m0 m1 : Mem} {v : AV}
    (hn : fn.ntmps - args.length = nt) (hv : scA L v = true) (hm1 : scM L m1 = true) (h : ev P C L c (endF P L fn.results.toList v m1) (args ++ undefs nt) m0) : Ev1 P fid args m0 v m1 :=
  fun _ _ _ hm ha => calls_of_evF hC hf hb hn hv hm1 h hm ha

/-! ### Loops -/
def topsK : List AV → (List AV → Prop) → Prop
  | [], K => K []
  | _ :: r, K => topsK r fun r => K (.top :: r)
def setsK : List AV → List Nat → List AV → (List AV → Prop) → Prop
  | f, [], _, K => K f
  | f, i :: is, es, K => match es with
    | e :: es => setK f i e fun f => setsK f is es K
    | [] => K f
def getsK : List AV → List Nat → (List AV → Prop) → Prop
  | _, [], K => K []
  | f, i :: is, K => nthK f i fun v => getsK f is fun vs => K (v :: vs)
def sameL : List AV → List AV → Bool
  | [], [] => true
  | _ :: a, _ :: b => sameL a b
  | _, _ => false
theorem sameL_ok : ∀ {a b : List AV}, sameL a b = true → a.length = b.length
  | [], [], _ => rfl
  | _ :: a, _ :: b, h => by simp [sameL_ok (a := a) (b := b) h]
  | [], _ :: _, h => by cases h
  | _ :: _, [], h => by cases h

def tops : List AV → List AV
  | [] => []
  | _ :: r => .top :: tops r
def sets : List AV → List Nat → List AV → List AV
  | f, [], _ => f
  | f, i :: is, es => match es with
    | e :: es => sets (f.set i e) is es
    | [] => f
theorem topsK_eq (f : List AV) (K : List AV → Prop) : topsK f K = K (tops f) := by
  induction f generalizing K with
  | nil => rfl
  | cons a r ih => simp only [topsK, tops]; rw [ih]
theorem setsK_eq (is : List Nat) : ∀ (f es : List AV) (K : List AV → Prop), setsK f is es K = K (sets f is es) := by
  induction is with
  | nil => intro f es K; simp [setsK, sets]
  | cons i is ih =>
    intro f es K
    cases es with
    | nil => rfl
    | cons e es => simp only [setsK, sets]; rw [setK_eq, ih]
theorem getsK_eq (f : List AV) (is : List Nat) : ∀ (K : List AV → Prop), getsK f is K = K (is.map fun i => (f[i]?).getD und) := by
  induction is with
  | nil => intro K; rfl
  | cons i is ih => intro K; simp only [getsK, List.map_cons]; rw [nthK_eq, ih]

theorem tops_length (f : List AV) : (tops f).length = f.length := by induction f with | nil => rfl | cons a r ih => simp [tops, ih]
theorem tops_get : ∀ {f : List AV} {i : Nat} {c : AV}, (tops f)[i]? = some c → c = .top
  | [], i, c, h => by simp [tops] at h
  | a :: r, 0, c, h => by simp [tops] at h; exact h.symm
  | a :: r, i + 1, c, h => tops_get (f := r) (by simpa [tops] using h)

theorem RepL.sets {w : World} {g : G} {lim : Nat} : ∀ (is : List Nat) {f es : List AV} {xs ys : Array Value}, RepL w g lim f xs → RepL w g lim es ys → (∀ (k i : Nat), is[k]? = some i → i < xs.size → ys[k]? = xs[i]?) → RepL w g lim (sets f is es) xs
  | [], f, es, xs, ys, hf, _, _ => by simpa [Eng.sets] using hf
  | i :: is, f, es, xs, ys, hf, he, hg => by
    cases es with
    | nil => exact hf
    | cons e es =>
      simp only [Eng.sets]
      obtain ⟨y, ys', hy⟩ : ∃ y ys', ys = (y :: ys' : List Value).toArray := by
        cases hy : ys.toList with
        | nil => have := he.1; rw [← Array.length_toList, hy] at this; simp at this
        | cons y ys' => exact ⟨y, ys', by rw [← Array.toArray_toList (xs := ys), hy]⟩
      subst hy
      refine RepL.sets is (ys := ys'.toArray) ⟨by rw [List.length_set]; exact hf.1, fun j c x hc hx => ?_⟩ ⟨by have := he.1; simpa using this, fun k c x hc hx => he.2 (k + 1) c x (by simpa using hc) (by simpa using hx)⟩ (fun k j hk hj => by simpa using hg (k + 1) j (by simpa using hk) hj)
      by_cases hij : i = j
      · subst hij
        rw [List.getElem?_set] at hc
        have hlt : i < xs.size := (Array.getElem?_eq_some_iff.1 hx).1
        have := hg 0 i (by simp) hlt
        simp at this
        simp at hc
        obtain ⟨_, rfl⟩ := hc
        rw [hx] at this
        exact he.2 0 e x (by simp) (by simpa using this)
      · rw [List.getElem?_set_ne hij] at hc
        exact hf.2 j c x hc hx

/-- Where a loop stands: the slots and the memory that are told. -/
def atK (base : Nat) (is : List Nat) (f : List AV) (m : Mem) (es : List AV) (m1 : Mem) : Prop := getsK f is fun cs => finK base cs m es m1

theorem atK_ok {base : Nat} {is : List Nat} {f f0 : List AV} {m : Mem} {es : List AV} {m1 : Mem} (h : atK base is f m es m1) (hl : f.length = f0.length) {w : World} {g : G} {lim : Nat} {a : Act} (hs : Sim w g lim f (mget m) a) :
    ∃ g', Sim w g' lim (sets (tops f0) is es) (mget m1) a ∧ LeG base g g' := by
  unfold atK at h
  rw [getsK_eq] at h
  obtain ⟨g', h1, h2, h3⟩ := finK_ok h hs.me (is.map fun i => (a.tmps[i]?).getD undef).toArray ⟨by simp, fun k c x hc hx => by
    simp only [List.getElem?_map, Option.map_eq_some_iff] at hc
    obtain ⟨i, hi, rfl⟩ := hc
    simp [hi] at hx
    subst hx
    have hll := hs.fr.1
    by_cases hlt : i < a.tmps.size
    · rw [Array.getElem?_eq_getElem hlt, List.getElem?_eq_getElem (by omega)]
      exact hs.fr.2 i _ _ (List.getElem?_eq_getElem (by omega)) (Array.getElem?_eq_getElem hlt)
    · rw [Array.getElem?_eq_none (by omega), List.getElem?_eq_none (by omega)]
      exact .lit _⟩
  refine ⟨g', ⟨RepL.sets is ⟨by rw [tops_length, ← hl]; exact hs.fr.1, fun i c x hc _ => by rw [tops_get hc]; exact .top _⟩ h3 (fun k i hk hi => by simp [hk, hi]), hs.df, h1⟩, h2⟩

/-- A round's end: the next state. -/
inductive Next {σ : Type} (inv : σ → Prop) (lt : σ → Prop) (here : σ → Prop) : Prop where
  | to (s : σ) (h : inv s) (h' : lt s) (h'' : here s) : Next inv lt here
  | no (h : False) : Next inv lt here

/-- **A LOOP, BY WHAT STANDS IN ITS SLOTS**: 'is' the slots that are read later; 'S s' what stands there, 'M s' the memory, in state s; each round lowers the rank. -/
theorem Runs.loopS {P : Program} {C : Cfg2} (hC : Cfg2Ok P C) {base : Nat} {c : Code} {Q : Post} {f : List AV} {m : Mem} {σ : Type} (is : List Nat) (S : σ → List AV) (M : σ → Mem) (inv : σ → Prop) (rank : σ → Nat) (s0 : σ)
    (hi : inv s0) (h0 : atK base is f m (S s0) (M s0))
    (round : ∀ s, inv s → topsK f fun f0 => setsK f0 is (S s) fun f1 => ev P C base c (fun e f' m' => match e with
      | .normal => match sameL f' f0 with
        | true => Next inv (fun s' => rank s' < rank s) (fun s' => atK base is f' m' (S s') (M s'))
        | false => False
      | e => Q e f' m') f1 (M s)) : Runs P base (.loop c) Q f m := by
  refine ⟨fun w g a hs => ?_⟩
  obtain ⟨g0, hs0, hl0⟩ := atK_ok (f0 := f) h0 rfl hs
  refine wp_loop_n (fun n a' w' => ∃ s g', inv s ∧ rank s = n ∧ Sim w' g' (base + L) (sets (tops f) is (S s)) (mget (M s)) a' ∧ Tr g w w' ∧ LeG base g g') (rank s0) ⟨s0, g0, hi, rfl, hs0, Tr.refl g w, hl0⟩ ?_
  intro n1 a1 w1 hh
  obtain ⟨s, g1, hI1, rfl, hs1, ht1, hl1⟩ := hh
  have hr := round s hI1
  rw [topsK_eq, setsK_eq] at hr
  refine Code.wp_mono (fun e a2 w2 hh => ?_) ((ev_ok hC c hr).go w1 g1 a1 hs1)
  obtain ⟨ae, f2, m2, g2, rfl, hq, hs2, ht2, hl2⟩ := hh
  cases ae with
  | normal =>
    simp only at hq
    cases hsl : sameL f2 (tops f) with
    | false => rw [hsl] at hq; exact hq.elim
    | true =>
      rw [hsl] at hq
      rcases hq with ⟨s', hi', hlt, hat⟩ | hq
      case no => exact hq.elim
      obtain ⟨g3, hs3, hl3⟩ := atK_ok (f0 := f) hat (by rw [sameL_ok hsl, tops_length]) hs2
      exact ⟨rank s', hlt, s', g3, hi', rfl, hs3, ht1.trans hl1 ht2, (hl1.trans hl2).trans hl3⟩
  | exit i => exact ⟨.exit i, f2, m2, g2, rfl, hq, hs2, ht1.trans hl1 ht2, hl1.trans hl2⟩
  | ret => exact ⟨.ret, f2, m2, g2, rfl, hq, hs2, ht1.trans hl1 ht2, hl1.trans hl2⟩


/-! Which function is called here? -/
theorem isE {P : Program} {base : Nat} (fid : FuncId) {args : List AV} {f : List AV} {m : Mem} {d : Option Nat} {K : List AV → Mem → Prop} {J : Prop}
    (h : (∃ c : Act1, (∀ p ∈ c.rd, mget m p.1 = some p.2) ∧ CAct P base fid args c ∧ applyK c f m d K) ∨ J) :
    (∃ c : Act1, (∀ p ∈ c.rd, mget m p.1 = some p.2) ∧ CAct P base fid args c ∧ applyK c f m d K) ∨ J := h
theorem isD {P : Program} {base : Nat} (fid : FuncId) {args : List AV} {m : Mem} {K : Act1 → Prop}
    (h : ∃ c : Act1, (∀ p ∈ c.rd, mget m p.1 = some p.2) ∧ CAct P base fid args c ∧ K c) :
    ∃ c : Act1, (∀ p ∈ c.rd, mget m p.1 = some p.2) ∧ CAct P base fid args c ∧ K c := h

theorem lens {α : Type} : (∀ (a : α) (l : List α), (a :: l).length = l.length + 1) ∧ ([] : List α).length = 0 ∧ (∀ a b : List α, (a ++ b).length = a.length + b.length) ∧ (∀ (n : Nat) (l : List α), (l.take n).length = min n l.length) ∧ (∀ (n : Nat) (l : List α), (l.drop n).length = l.length - n) ∧ (∀ (n : Nat) (a : α), (List.replicate n a).length = n) ∧ (∀ (l : List α) (n : Nat) (a : α), (l.set n a).length = l.length) :=
  ⟨fun _ _ => rfl, rfl, fun _ _ => List.length_append, fun _ _ => List.length_take, fun _ _ => List.length_drop, fun _ _ => List.length_replicate, fun _ _ _ => List.length_set⟩

theorem inU8 {r : Int} (h : 0 ≤ r) (h' : r ≤ 255) : inR .u8 r := by unfold inR; exact IntWalk.u8_in r ⟨h, h'⟩
theorem inU64 {r : Int} (h : 0 ≤ r) (h' : r ≤ 18446744073709551615) : inR .u64 r := by unfold inR; exact IntWalk.u64_in r ⟨h, h'⟩

end Eng
