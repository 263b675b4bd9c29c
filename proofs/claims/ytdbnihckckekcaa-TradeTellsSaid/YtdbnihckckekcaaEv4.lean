/- FUNCTIONS OVER ABSTRACT VALUES: results; what is left of own memory behind a call; calls that are entered in place; functions of data alone. -/
import Derived.Test.YtdbnihckckekcaaEv3
set_option linter.unusedSimpArgs false
set_option linter.unusedVariables false
namespace Eng
open Go Go.RowKit

def resOne (P : Program) (f : List AV) (m : Mem) (r : ResultVar) (K : AV → Prop) : Prop :=
  match r with
  | .tmp t => nthK f t K
  | .cell p t => nthK f p fun v => match v with
    | .ptr k off => memK m k fun b => match b with
      | .box cs => aggK P t cs off K
      | .row _ _ => False
    | _ => False
def resMany (P : Program) (f : List AV) (m : Mem) : List ResultVar → (List AV → Prop) → Prop
  | [], K => K []
  | r :: rs, K => resOne P f m r fun v => resMany P f m rs fun vs => K (v :: vs)
def resK (P : Program) (f : List AV) (m : Mem) (rs : List ResultVar) (K : AV → Prop) : Prop :=
  resMany P f m rs fun vs => match vs with
    | [v] => K v
    | vs => K (.tup vs)

def runOne (tmps : Array Value) : ResultVar → Sem Value
  | .tmp t => pure (tmps.getD t undef)
  | .cell a t => do loadVar t (← asAddr (tmps.getD a undef))

theorem resOne_ok {P : Program} {f : List AV} {m : Mem} {r : ResultVar} {K : AV → Prop} (h : resOne P f m r K) {w : World} {g : G} {lim : Nat} {a : Act} (hs : Sim w g lim f (mget m) a) :
    ∃ v x, K v ∧ (runOne a.tmps r).run P w = .ok x w ∧ Rep w g lim v x := by
  cases r with
  | tmp t =>
    simp only [resOne] at h
    rw [nthK_eq] at h
    exact ⟨_, _, h, rfl, rep_aval hs (.tmp t)⟩
  | cell p t =>
    simp only [resOne] at h
    rw [nthK_eq] at h
    have hr := rep_aval hs (.tmp p)
    simp only [aval] at hr
    cases hv : (f[p]?).getD und <;> rw [hv] at h <;> simp only at h
    case ptr k off =>
      rw [hv] at hr
      obtain ⟨b, hb, h⟩ := memK_ok h
      cases b with
      | row t' l => exact h.elim
      | box cs =>
        simp only at h
        obtain ⟨v, hK, hv2⟩ := aggK_ok h
        have hal : g.al k := (hs.me.al k).2 (by simp [hb])
        have he : a.tmps.getD p undef = .pointer (some ⟨g.be k, off, none⟩) := rep_ptr hr hal
        obtain ⟨_, c, ty, b1, b2, b3, b4⟩ := hs.me.blk k _ hb
        obtain ⟨y, e1, e2⟩ := hv2 (w := w) (g := g) (lim := lim) (b := g.be k) (o := 0) (fun i => (c[i]?).getD undef)
          (fun i a hi => by
            have hlt : i < c.size := by have := (List.getElem?_eq_some_iff.1 hi).1; omega
            rw [Nat.zero_add, cell_of_row w _ i c ty _ b1, Array.getElem?_eq_getElem hlt]; simp)
          (fun i a hi => by
            have hlt : i < c.size := by have := (List.getElem?_eq_some_iff.1 hi).1; omega
            have := b4 i a c[i] hi (Array.getElem?_eq_getElem hlt)
            simpa [Array.getElem?_eq_getElem hlt] using this)
        refine ⟨v, y, hK, ?_, e2⟩
        simp only [runOne, he, asAddr, Sem.run_bind, Sem.run_pure, Result.andThen_ok]
        simpa [Instr.loadAt, Instr.sureAddr] using e1
    all_goals exact h.elim

theorem resMany_ok {P : Program} {f : List AV} {m : Mem} {rs : List ResultVar} {w : World} {g : G} {lim : Nat} {a : Act} (hs : Sim w g lim f (mget m) a) : ∀ {K : List AV → Prop}, resMany P f m rs K →
    ∃ vs xs, K vs ∧ (rs.mapM (runOne a.tmps)).run P w = .ok xs w ∧ RepL w g lim vs xs.toArray := by
  induction rs with
  | nil => intro K h; exact ⟨[], [], h, by simp, rfl, fun i c x hc => by simp at hc⟩
  | cons r rs ih =>
    intro K h
    simp only [resMany] at h
    obtain ⟨v, x, h, e1, e2⟩ := resOne_ok h hs
    obtain ⟨vs, xs, h, e3, e4⟩ := ih h
    refine ⟨v :: vs, x :: xs, h, by simp [List.mapM_cons, e1, e3], by have := e4.1; simp at this ⊢; exact this, fun i c y hc hy => ?_⟩
    cases i with
    | zero => simp at hc hy; subst hc; subst hy; exact e2
    | succ i => exact e4.2 i c y (by simpa using hc) (by simpa using hy)

theorem resK_ok {P : Program} {f : List AV} {m : Mem} {fn : Func} {K : AV → Prop} (h : resK P f m fn.results.toList K) {w : World} {g : G} {lim : Nat} {a : Act} (hs : Sim w g lim f (mget m) a) :
    ∃ v x, K v ∧ (results fn a.tmps).run P w = .ok x w ∧ Rep w g lim v x := by
  unfold resK at h
  obtain ⟨vs, xs, h, e1, e2⟩ := resMany_ok hs h
  have hm : (fn.results.mapM (runOne a.tmps)).run P w = .ok xs.toArray w := by
    rw [← Array.toArray_toList (xs := fn.results), List.mapM_toArray]
    simp [e1]
  have hres0 : results fn a.tmps = (fn.results.mapM (runOne a.tmps) >>= fun vs => pure (if h : vs.size = 1 then vs[0] else .tuple vs)) := by
    unfold results
    congr 1
  have hres : (results fn a.tmps).run P w = .ok (if h : xs.toArray.size = 1 then xs.toArray[0] else .tuple xs.toArray) w := by
    rw [hres0, Sem.run_bind, hm]; rfl
  have hlen : vs.length = xs.length := by simpa using e2.1
  split at h
  · rename_i v
    have h1 : xs.length = 1 := by simpa using hlen.symm
    obtain ⟨x, rfl⟩ : ∃ x, xs = [x] := List.length_eq_one_iff.1 h1
    refine ⟨v, x, h, by rw [hres]; rfl, e2.2 0 v x (by simp) (by simp)⟩
  · rename_i hne
    refine ⟨.tup vs, .tuple xs.toArray, h, ?_, .tup _ _ e2.1 e2.2⟩
    rw [hres, dif_neg]
    intro h1
    have h2 : vs.length = 1 := by rw [hlen]; simpa using h1
    obtain ⟨v, hv⟩ := List.length_eq_one_iff.1 h2
    exact hne v hv

/-- Does anything name a block? -/
def menMem (k : Nat) : Mem → Bool
  | [] => false
  | (_, b) :: r => match menB k b with | true => true | false => menMem k r

/-- WHAT IS LEFT BEHIND A CALL: the call's own variables (even numbers from 'lim' on) are given up and forgotten; rows that nothing names are given up. -/
def cleanK (lim : Nat) : List Nat → AV → Mem → (AV → Mem → Prop) → Prop
  | [], v, m, K => K v m
  | k :: r, v, m, K => match Nat.beq (k % 2) 0 with
    | true => match Nat.ble lim k with
      | true => mdelC m k fun m => fgtC k v fun v => fgtMC k m fun m => cleanK lim r v m K
      | false => cleanK lim r v m K
    | false => match men k v with
      | true => cleanK lim r v m K
      | false => match menMem k m with
        | true => cleanK lim r v m K
        | false => mdelC m k fun m => cleanK lim r v m K

def keys : Mem → (List Nat → List Nat → Prop) → Prop
  | [], K => K [] []
  | (i, _) :: r, K => keys r fun e o => match Nat.beq (i % 2) 0 with | true => K (i :: e) o | false => K e (i :: o)

theorem cleanK_ok {lim : Nat} {w : World} {L' : Nat} {x : Value} (base : Nat) (ks : List Nat) : ∀ {v : AV} {m : Mem} {K : AV → Mem → Prop} {g : G}, cleanK lim ks v m K → Rep w g L' v x → MSim w g L' (mget m) →
    ∃ v' m' g', K v' m' ∧ Rep w g' L' v' x ∧ MSim w g' L' (mget m') ∧ LeG base g g' := by
  induction ks with
  | nil => intro v m K g h hv hm; exact ⟨v, m, g, h, hv, hm, LeG.refl base g⟩
  | cons k r ih =>
    intro v m K g h hv hm
    simp only [cleanK] at h
    split at h
    · split at h
      · rw [mdelC_eq, fgtC_eq, fgtMC_eq] at h
        obtain ⟨v', m', g', h1, h2, h3, h4⟩ := ih (g := g.kill k) h ((hv.fgt k).kill k) (by rw [mget_fgtMem, mget_mdel']; exact (hm.kill k).fgt k)
        exact ⟨v', m', g', h1, h2, h3, (LeG.kill base g k).trans h4⟩
      · exact ih h hv hm
    · split at h
      · exact ih h hv hm
      · split at h
        · exact ih h hv hm
        · rw [mdelC_eq] at h
          obtain ⟨v', m', g', h1, h2, h3, h4⟩ := ih (g := g.kill k) h (hv.kill k) (by rw [mget_mdel']; exact hm.kill k)
          exact ⟨v', m', g', h1, h2, h3, (LeG.kill base g k).trans h4⟩

mutual
/-- Only variables below 'lim' are named. -/
def scA (lim : Nat) : AV → Bool
  | .own _ k _ _ _ => match Nat.beq (k % 2) 0 with | true => Nat.blt k lim | false => true
  | .ptr k _ => match Nat.beq (k % 2) 0 with | true => Nat.blt k lim | false => true
  | .rptr _ k _ _ => match Nat.beq (k % 2) 0 with | true => Nat.blt k lim | false => true
  | .agg cs => scL lim cs
  | .tup cs => scL lim cs
  | .clo _ a b => match scL lim a with | true => scL lim b | false => false
  | _ => true
def scL (lim : Nat) : List AV → Bool
  | [] => true
  | c :: r => match scA lim c with | true => scL lim r | false => false
end
def scM (lim : Nat) : Mem → Bool
  | [] => true
  | (k, b) :: r => match (match Nat.beq (k % 2) 0 with | true => Nat.blt k lim | false => true) with
    | true => match b with
      | .box cs => match scL lim cs with | true => scM lim r | false => false
      | .row _ _ => scM lim r
    | false => false

theorem scL_get {lim : Nat} {cs : List AV} (h : scL lim cs = true) {i : Nat} {c : AV} (hc : cs[i]? = some c) : scA lim c = true := by
  induction cs generalizing i with
  | nil => simp at hc
  | cons a r ih =>
    simp only [scL] at h
    cases ha : scA lim a with
    | false => rw [ha] at h; cases h
    | true =>
      rw [ha] at h
      cases i with
      | zero => simp at hc; subst hc; exact ha
      | succ i => simp at hc; exact ih h hc

theorem sc_id {lim k : Nat} (h : (match Nat.beq (k % 2) 0 with | true => Nat.blt k lim | false => true) = true) : k < lim ∨ k % 2 = 1 := by
  cases he : Nat.beq (k % 2) 0 with
  | true => rw [he] at h; exact .inl (Nat.le_of_ble_eq_true h)
  | false => have := nbf.1 he; omega

theorem sc_cells {t : Ty} {e : El t} {c : AV} (h : c ∈ cells t e) (lim : Nat) : scA lim c = true := by
  cases t <;> simp [cells] at h <;> (repeat' (first | (subst h; rfl) | (rcases h with h | h)))
theorem sc_flat {t : Ty} {l : List (El t)} {i : Nat} {c : AV} (h : (flat t l)[i]? = some c) (lim : Nat) : scA lim c = true := by
  have hm := List.mem_of_getElem? h
  simp only [flat, List.mem_flatMap] at hm
  obtain ⟨e, _, hc⟩ := hm
  exact sc_cells hc lim

theorem Rep.lower {w : World} {g : G} {lim lim' : Nat} {v : AV} {x : Value} (h : Rep w g lim' v x) (hs : scA lim v = true) : Rep w g lim v x := by
  induction h with
  | top x => exact .top x
  | tt => exact .tt
  | ff => exact .ff
  | lit v => exact .lit v
  | agg cs xs hl h ih => exact .agg cs xs hl fun i c x hc hx => ih i c x hc hx (scL_get (by simpa [scA] using hs) hc)
  | tup cs xs hl h ih => exact .tup cs xs hl fun i c x hc hx => ih i c x hc hx (scL_get (by simpa [scA] using hs) hc)
  | vecE t a cap => exact .vecE t a cap
  | vec t l b o cap xs hc hr hw h ih => exact .vec t l b o cap xs hc hr hw fun i c hi => ih i c hi (sc_flat hi lim)
  | emp t a => exact .emp t a
  | bl p q b hb1 hq1 => exact .bl p q b hb1 hq1
  | own t k off len b cap c hk hc hcc h => exact .own t k off len b cap c (sc_id hs) hc hcc h
  | ownE t k off c ad hk hcc => exact .ownE t k off c ad (sc_id hs) hcc
  | ptr k off b hk h => exact .ptr k off b (sc_id hs) h
  | rptr t k i off b hk h => exact .rptr t k i off b (sc_id hs) h
  | vptr t l i off b o xs hr hw h ih => exact .vptr t l i off b o xs hr hw fun i c hi => ih i c hi (sc_flat hi lim)
  | clo fn fs cs fs' cs' hl h hl' h' ih ih' =>
    have h1 : scL lim fs = true ∧ scL lim cs = true := by
      simp only [scA] at hs
      cases hf : scL lim fs with
      | false => rw [hf] at hs; cases hs
      | true => rw [hf] at hs; exact ⟨rfl, hs⟩
    exact .clo fn fs cs fs' cs' hl (fun i c x hc hx => ih i c x hc hx (scL_get h1.1 hc)) hl' (fun i c x hc hx => ih' i c x hc hx (scL_get h1.2 hc))

theorem scM_get {lim : Nat} {m : Mem} (h : scM lim m = true) {k : Nat} {b : Blk} (hb : mget m k = some b) : (k < lim ∨ k % 2 = 1) ∧ ∀ cs, b = .box cs → scL lim cs = true := by
  induction m with
  | nil => simp [mget] at hb
  | cons p r ih =>
    obtain ⟨i, c⟩ := p
    simp only [scM] at h
    split at h
    case h_2 => cases h
    rename_i hi
    simp only [mget] at hb
    cases hk : Nat.beq i k with
    | true =>
      rw [hk] at hb
      cases hb
      have hik := nbt.1 hk
      subst hik
      refine ⟨sc_id hi, ?_⟩
      intro cs hcs
      subst hcs
      simp only at h
      cases hc : scL lim cs with
      | true => rfl
      | false => rw [hc] at h; cases h
    | false =>
      rw [hk] at hb
      cases c with
      | row t l => exact ih h hb
      | box cs =>
        simp only at h
        cases hc : scL lim cs with
        | true => rw [hc] at h; exact ih h hb
        | false => rw [hc] at h; cases h

theorem MSim.lower {w : World} {g : G} {lim lim' : Nat} {m : Mem} (h : MSim w g lim' (mget m)) (hs : scM lim m = true) : MSim w g lim (mget m) := by
  refine ⟨h.al, fun k hk => ?_, h.nro, h.inj, fun k b hb => ?_, h.rolt, h.nof⟩
  · obtain ⟨b, hb⟩ := Option.isSome_iff_exists.1 ((h.al k).1 hk)
    exact (scM_get hs hb).1
  · have hb2 := h.blk k b hb
    have hsc := (scM_get hs hb).2
    cases b with
    | box cs =>
      obtain ⟨h0, c, ty, h1, h2, h3, h4⟩ := hb2
      exact ⟨h0, c, ty, h1, h2, h3, fun i a x ha hx => (h4 i a x ha hx).lower (scL_get (hsc cs rfl) ha)⟩
    | row t l =>
      rcases hb2 with h0 | ⟨h0, c, ty, h1, h2, h3, h4⟩
      · exact .inl h0
      exact .inr ⟨h0, c, ty, h1, h2, h3, fun i a x ha hx => (h4 i a x ha hx).lower (sc_flat ha lim)⟩

theorem MSim.raise {w : World} {g : G} {lim lim' : Nat} {m : Nat → Option Blk} (h : MSim w g lim m) (hl : lim ≤ lim') : MSim w g lim' m :=
  ⟨h.al, fun k hk => by have := h.lt k hk; omega, h.nro, h.inj, fun k b hb => (h.blk k b hb).mono' ⟨fun _ h => h, fun _ _ => rfl⟩ hl (fun _ => rfl) fun _ _ _ ha => ⟨ha, rfl, rfl⟩, h.rolt, h.nof⟩

/-- The end of a call: its result, what it leaves. -/
def endK (P : Program) (lim : Nat) (rs : List ResultVar) (f : List AV) (m : Mem) (K : AV → Mem → Prop) : Prop :=
  resK P f m rs fun v => keys m fun e o => cleanK lim e v m fun v m => cleanK lim o v m fun v m => match scA lim v with
    | true => match scM lim m with
      | true => K v m
      | false => False
    | false => False

theorem keys_ok {m : Mem} {K : List Nat → List Nat → Prop} (h : keys m K) : ∃ e o, K e o := by
  induction m generalizing K with
  | nil => exact ⟨_, _, h⟩
  | cons p r ih =>
    obtain ⟨i, b⟩ := p
    simp only [keys] at h
    obtain ⟨e, o, h⟩ := ih h
    split at h
    · exact ⟨_, _, h⟩
    · exact ⟨_, _, h⟩

/-- What stands behind a function's body. -/
def bodyK (P : Program) (lim : Nat) (rs : List ResultVar) (K : AV → Mem → Prop) : Post := fun e f m => match e with
  | .normal => endK P lim rs f m K
  | .ret => endK P lim rs f m K
  | .exit _ => False

theorem endK_ok {P : Program} {base lim : Nat} {fn : Func} {f : List AV} {m : Mem} {K : AV → Mem → Prop} (h : endK P lim fn.results.toList f m K) {w : World} {g : G} {L' : Nat} {a : Act} (hs : Sim w g L' f (mget m) a) :
    ∃ v x m' g', K v m' ∧ (results fn a.tmps).run P w = .ok x w ∧ Rep w g' lim v x ∧ MSim w g' lim (mget m') ∧ LeG base g g' := by
  unfold endK at h
  obtain ⟨v, x, h, e1, e2⟩ := resK_ok h hs
  obtain ⟨e, o, h⟩ := keys_ok h
  obtain ⟨v1, m1, g1, h, r1, s1, l1⟩ := cleanK_ok base e h e2 hs.me
  obtain ⟨v2, m2, g2, h, r2, s2, l2⟩ := cleanK_ok base o h r1 s1
  split at h
  · rename_i hv
    split at h
    · rename_i hm
      exact ⟨v2, x, m2, g2, h, e1, r2.lower hv, s2.lower hm, l1.trans l2⟩
    · exact h.elim
  · exact h.elim

def undefs : Nat → List AV
  | 0 => []
  | n + 1 => und :: undefs n
theorem undefs_eq (n : Nat) : undefs n = List.replicate n und := by induction n with | zero => rfl | succ n ih => simp [undefs, ih, List.replicate_succ]

/-- **A CALL, BY THE FUNCTION's TEXT.** -/
theorem calls_of_ev {P : Program} {C : Cfg2} (hC : Cfg2Ok P C) {fid : FuncId} {fn : Func} {c : Code} (hf : P.funcs[fid]? = some fn) (hb : fn.body = some c) {base nt : Nat} {args : List AV} {m : Mem} {K : AV → Mem → Prop}
    (hn : fn.ntmps - args.length = nt)
    (h : ev P C base c (bodyK P base fn.results.toList K) (args ++ undefs nt) m) {w : World} {g : G} {vs : Array Value} (hm : MSim w g base (mget m)) (ha : RepL w g base args vs) :
    Calls P fid vs w fun e w' => ∃ v x g' m', e = .returned x ∧ Rep w' g' base v x ∧ MSim w' g' base (mget m') ∧ Tr g w w' ∧ LeG base g g' ∧ K v m' := by
  refine calls_of_wp hf hb ?_
  have hsz : args.length = vs.size := ha.1
  have hs : Sim w g (base + L) (args ++ undefs nt) (mget m) { tmps := vs ++ Array.replicate (fn.ntmps - vs.size) undef, defers := [] } := by
    refine ⟨⟨by rw [undefs_eq]; simp [hsz, ← hn], fun i c x hc hx => ?_⟩, rfl, hm.raise (Nat.le_add_right _ _)⟩
    by_cases hi : i < args.length
    · rw [List.getElem?_append_left hi] at hc
      rw [Array.getElem?_append_left (by omega)] at hx
      exact (ha.2 i c x hc hx).mono ⟨fun _ h => h, fun _ _ => rfl⟩ (Nat.le_add_right _ _) fun _ _ h => ⟨h, rfl, rfl⟩
    · rw [List.getElem?_append_right (by omega), undefs_eq, List.getElem?_replicate] at hc
      rw [Array.getElem?_append_right (by omega), Array.getElem?_replicate] at hx
      split at hc
      · split at hx
        · simp at hc hx; subst hc; subst hx; exact .lit _
        · cases hx
      · cases hc
  refine Code.wp_mono (fun e a' w' hh => ?_) ((ev_ok hC c h).go w g _ hs)
  obtain ⟨ae, f', m', g', rfl, hq, hs', ht, hl⟩ := hh
  cases ae with
  | normal =>
    obtain ⟨v, x, m2, g2, hK, e1, e2, e3, e4⟩ := endK_ok (base := base) hq hs'
    exact ⟨hs'.df, x, e1, v, x, g2, m2, rfl, e2, e3, ht, hl.trans e4, hK⟩
  | ret =>
    obtain ⟨v, x, m2, g2, hK, e1, e2, e3, e4⟩ := endK_ok (base := base) hq hs'
    exact ⟨hs'.df, x, e1, v, x, g2, m2, rfl, e2, e3, ht, hl.trans e4, hK⟩
  | exit i => exact hq.elim

/-- A call entered in place. -/
theorem ICall.of_ev {P : Program} {C : Cfg2} (hC : Cfg2Ok P C) {fid : FuncId} {fn : Func} {c : Code} (hf : P.funcs[fid]? = some fn) (hb : fn.body = some c) {base nt : Nat} {args : List AV} {m : Mem} {K : AV → Mem → Prop}
    (hn : fn.ntmps - args.length = nt) (h : ev P C (base + L) c (bodyK P (base + L) fn.results.toList K) (args ++ undefs nt) m) : ICall P base fid args m K :=
  ⟨fun _ _ _ hm ha => calls_of_ev hC hf hb hn h hm ha⟩

/-- A FUNCTION OF DATA ALONE: called with what stands for 'args' it hands back what stands for 'v'; nothing that was there turns. -/
def Api (P : Program) (fid : FuncId) (args : List AV) (v : AV) : Prop :=
  ∀ (w : World) (g : G) (vs : Array Value), MSim w g 0 (mget []) → RepL w g 0 args vs →
    Calls P fid vs w fun e w' => ∃ x g', e = .returned x ∧ Rep w' g' 0 v x ∧ MSim w' g' 0 (mget []) ∧ Tr g w w' ∧ LeG 0 g g'

theorem Api.of_ev {P : Program} {C : Cfg2} (hC : Cfg2Ok P C) {fid : FuncId} {fn : Func} {c : Code} (hf : P.funcs[fid]? = some fn) (hb : fn.body = some c) {nt : Nat} {args : List AV} {v : AV}
    (hn : fn.ntmps - args.length = nt) (h : ev P C 0 c (bodyK P 0 fn.results.toList fun v' m => Le v' v ∧ m = []) (args ++ undefs nt) []) : Api P fid args v := by
  intro w g vs hm ha
  refine (calls_of_ev hC hf hb hn h hm ha).mono fun e w' ⟨v', x, g', m', e1, e2, e3, e4, e5, e6, e7⟩ => ?_
  subst e7
  exact ⟨x, g', e1, e6 _ _ _ _ e2, e3, e4, e5⟩

mutual
/-- Data alone. -/
def pureV : AV → Bool
  | .own _ _ _ _ _ => false
  | .ptr _ _ => false
  | .rptr _ _ _ _ => false
  | .agg cs => pureL cs
  | .tup cs => pureL cs
  | .clo _ a b => match pureL a with | true => pureL b | false => false
  | _ => true
def pureL : List AV → Bool
  | [] => true
  | c :: r => match pureV c with | true => pureL r | false => false
end
theorem pureL_get {cs : List AV} (h : pureL cs = true) {i : Nat} {c : AV} (hc : cs[i]? = some c) : pureV c = true := by
  induction cs generalizing i with
  | nil => simp at hc
  | cons a r ih =>
    simp only [pureL] at h
    cases ha : pureV a with
    | false => rw [ha] at h; cases h
    | true =>
      rw [ha] at h
      cases i with
      | zero => simp at hc; subst hc; exact ha
      | succ i => simp at hc; exact ih h hc
theorem pure_cells {t : Ty} {e : El t} {c : AV} (h : c ∈ cells t e) : pureV c = true := by
  cases t <;> simp [cells] at h <;> (repeat' (first | (subst h; rfl) | (rcases h with h | h)))
theorem pure_flat {t : Ty} {l : List (El t)} {i : Nat} {c : AV} (h : (flat t l)[i]? = some c) : pureV c = true := by
  have hm := List.mem_of_getElem? h
  simp only [flat, List.mem_flatMap] at hm
  obtain ⟨e, _, hc⟩ := hm
  exact pure_cells hc

/-- Data is data whatever is owned. -/
theorem Rep.pure {w w' : World} {g g' : G} {lim lim' : Nat} {v : AV} {x : Value} (h : Rep w g lim v x) (hp : pureV v = true) (hk : Keeps w w' g g') : Rep w' g' lim' v x := by
  induction h with
  | top x => exact .top x
  | tt => exact .tt
  | ff => exact .ff
  | lit v => exact .lit v
  | agg cs xs hl h ih => exact .agg cs xs hl fun i c x hc hx => ih i c x hc hx (pureL_get (by simpa [pureV] using hp) hc)
  | tup cs xs hl h ih => exact .tup cs xs hl fun i c x hc hx => ih i c x hc hx (pureL_get (by simpa [pureV] using hp) hc)
  | vecE t a cap => exact .vecE t a cap
  | vec t l b o cap xs hc hr hw h ih =>
    exact .vec t l b o cap xs hc (hk.ro b hr) (fun i c hi => by rw [World.cell?_of_block (w := w) (hk.same b hr)]; exact hw i c hi) fun i c hi => ih i c hi (pure_flat hi)
  | emp t a => exact .emp t a
  | bl p q b hb1 hq1 => exact .bl p q b hb1 hq1
  | own t k off len b cap c hkk hc hcc h => cases hp
  | ownE t k off c ad hkk hcc => cases hp
  | ptr k off b hkk h => cases hp
  | rptr t k i off b hkk h => cases hp
  | vptr t l i off b o xs hr hw h ih =>
    exact .vptr t l i off b o xs (hk.ro b hr) (fun i c hi => by rw [World.cell?_of_block (w := w) (hk.same b hr)]; exact hw i c hi) fun i c hi => ih i c hi (pure_flat hi)
  | clo fn fs cs fs' cs' hl h hl' h' ih ih' =>
    have h1 : pureL fs = true ∧ pureL cs = true := by
      simp only [pureV] at hp
      cases hf : pureL fs with
      | false => rw [hf] at hp; cases hp
      | true => rw [hf] at hp; exact ⟨rfl, hp⟩
    exact .clo fn fs cs fs' cs' hl (fun i c x hc hx => ih i c x hc hx (pureL_get h1.1 hc)) hl' (fun i c x hc hx => ih' i c x hc hx (pureL_get h1.2 hc))

/-- A function of data alone is a call that turns nothing. -/
theorem Api.cact {P : Program} {fid : FuncId} {args : List AV} {v : AV} (h : Api P fid args v) (ha : pureL args = true) (hv : pureV v = true) (base : Nat) : CAct P base fid args (vA v) := by
  refine ⟨fun m _ w g vs hm hr => ?_⟩
  let g0 : G := { ro := g.ro, no := fun b => g.no b ∨ ∃ k, g.al k ∧ 0 < g.sz k ∧ g.be k = b, al := fun _ => False, be := id, sz := id }
  have hm0 : MSim w g0 0 (mget []) := ⟨fun k => by simp [g0, mget], fun k hk => hk.elim, fun k hk => hk.elim, fun k j hk => hk.elim, fun k b hb => by simp [mget] at hb, hm.rolt, fun b hb => by
    rcases hb with hb | ⟨k, hk, hz, rfl⟩
    · exact ⟨(hm.nof b hb).1, (hm.nof b hb).2.1, fun k hk => hk.elim⟩
    · exact ⟨hm.lt_heap hk hz, hm.nro k hk hz, fun k hk => hk.elim⟩⟩
  have hr0 : RepL w g0 0 args vs := ⟨hr.1, fun i c x hc hx => (hr.2 i c x hc hx).pure (pureL_get ha hc) ⟨fun _ h => h, fun _ _ => rfl⟩⟩
  refine (h w g0 vs hm0 hr0).mono fun e w' ⟨x, g', e1, e2, e3, e4, e5⟩ => ?_
  let g2 : G := { ro := g'.ro, no := g.no, al := g.al, be := g.be, sz := g.sz }
  have hbe : ∀ k, g.al k → 0 < g.sz k → w'.heap[g.be k]? = w.heap[g.be k]? := fun k hk hz => e4.others _ (.inr ⟨k, hk, hz, rfl⟩)
  have hkeep : Keeps w w' g g2 := ⟨e5.ro, e4.same⟩
  refine ⟨x, g2, e1, e2.pure hv ⟨fun _ h => h, fun _ _ => rfl⟩, ?_, ⟨e4.os, e4.tape, e4.output, e4.size, e4.same, fun b hb => e4.others b (.inl hb)⟩, ⟨e5.ro, fun _ h => h, fun _ _ ha => ⟨ha, rfl, rfl⟩⟩, fun fr xs hfr => ?_⟩
  · refine ⟨hm.al, hm.lt, fun k hk hz hro => ?_, hm.inj, fun k b hb => ?_, e3.rolt, fun b hb => ?_⟩
    · exact (e3.nof _ (e5.no _ (.inr ⟨k, hk, hz, rfl⟩))).2.1 hro
    · have hal := (hm.al k).2 (by simp only [vA, Act1.me, fgtsM, putsM] at hb; simp [hb])
      exact (hm.blk k b hb).mono' hkeep (Nat.le_refl _) (hbe k hal) fun _ _ _ ha => ⟨ha, rfl, rfl⟩
    · have hn := e3.nof b (e5.no b (.inl hb))
      exact ⟨hn.1, hn.2.1, (hm.nof b hb).2.2⟩
  · exact hfr.mono hkeep (Nat.le_refl _) fun _ _ ha => ⟨ha, rfl, rfl⟩

theorem Le.tt {b : Bool} (h : b = true) : Le .tt (.lit (.bool b)) := fun _ _ _ _ hr => by subst h; cases hr; exact .lit _
theorem Le.ff {b : Bool} (h : b = false) : Le .ff (.lit (.bool b)) := fun _ _ _ _ hr => by subst h; cases hr; exact .lit _
theorem Le.lit {x y : Value} (h : x = y) : Le (.lit x) (.lit y) := by subst h; exact Le.refl _
theorem Le.bool {a b : Bool} (h : a = b) : Le (.lit (.bool a)) (.lit (.bool b)) := by subst h; exact Le.refl _
theorem Le.int {k : IntKind} {a b : Int} (h : a = b) : Le (.lit (.int k a)) (.lit (.int k b)) := by subst h; exact Le.refl _

/-- A call of a function of data alone, in a walk. -/
theorem callApi {P : Program} {base : Nat} {fid : FuncId} {args : List AV} {v : AV} (h : Api P fid args v) {f : List AV} {m : Mem} {d : Option Nat} {K : List AV → Mem → Prop} {J : Prop}
    (ha : pureL args = true) (hv : pureV v = true) (hK : applyK (vA v) f m d K) : (∃ c : Act1, (∀ p ∈ c.rd, mget m p.1 = some p.2) ∧ CAct P base fid args c ∧ applyK c f m d K) ∨ J :=
  .inl ⟨vA v, by simp [vA], h.cact ha hv base, hK⟩

end Eng
