/- ROWS, fourth part: rows that are frozen; slice literals; cap; copy; clear. -/
import Derived.Test.YtdbnihckckekcaaRowC
set_option linter.unusedSimpArgs false
set_option linter.unusedVariables false
namespace Eng
open Go Go.RowKit

theorem LeG.freeze (base : Nat) (g : G) (k : Nat) : LeG base g (g.freeze k) := ⟨fun _ h => .inl h, fun _ h => h, fun _ _ ha => ⟨ha.2, rfl, rfl⟩⟩

theorem Rep.toVec {w : World} {g : G} {lim : Nat} {m : Nat → Option Blk} (hm : MSim w g lim m) {t : Ty} {k off n : Nat} {c : Option Nat} {l : List (El t)} (hk : m k = some (.row t l)) (hl : off + n ≤ l.length) {x : Value}
    (h : Rep w g lim (.own t k off n c) x) : Rep w (g.freeze k) lim (.vec t ((l.drop off).take n)) x := by
  have hal : g.al k := (hm.al k).2 (by simp [hk])
  cases h with
  | ownE _ _ _ _ _ _ _ => rw [List.take_zero]; exact .vecE _ _ _
  | own _ _ _ _ b cap _ hkl hc hcc hh =>
    obtain ⟨rfl, h2⟩ := hh hal
    have hlen : ((l.drop off).take n).length = n := by rw [List.length_take, List.length_drop]; omega
    by_cases hn : n = 0
    · subst hn
      rw [List.take_zero]
      exact .vecE _ _ _
    · have hbr := hm.blk k _ hk
      have hz0 : 0 < g.sz k := Nat.lt_of_lt_of_le (Nat.mul_pos (by omega) (csz_pos t)) hbr.le
      obtain ⟨c0, ty0, b1, b2, b3, b4⟩ := hbr.getRow hz0
      rw [flat_length] at b3
      have hget : ∀ (i : Nat) a, (flat t ((l.drop off).take n))[i]? = some a → (flat t l)[off * csz t + i]? = some a := by
        intro i a hi
        rw [flat_take, List.getElem?_take] at hi
        split at hi
        · rw [flat_drop, List.getElem?_drop] at hi; exact hi
        · cases hi
      have hsz : ∀ (i : Nat) a, (flat t ((l.drop off).take n))[i]? = some a → off * csz t + i < c0.size := by
        intro i a hi
        have := (List.getElem?_eq_some_iff.1 (hget i a hi)).1
        rw [flat_length] at this; omega
      have hv := Rep.vec (w := w) (g := g.freeze k) (lim := lim) t ((l.drop off).take n) (g.be k) (off * csz t) cap (fun i => (c0[off * csz t + i]?).getD undef) (by rw [hlen]; exact hc) (.inr ⟨hz0, rfl⟩)
        (fun i a hi => by rw [cell_of_row w _ _ c0 ty0 _ b1, Array.getElem?_eq_getElem (hsz i a hi)]; simp)
        (fun i a hi => by
          have hlt := hsz i a hi
          simp only [Array.getElem?_eq_getElem hlt, Option.getD_some]
          exact (b4 _ a _ (hget i a hi) (Array.getElem?_eq_getElem hlt)).freeze k)
      rwa [hlen] at hv

/-- Own slices among cells, frozen. -/
def frzK : List AV → Mem → (List AV → List (Nat × Blk) → Prop) → Prop
  | [], _, K => K [] []
  | c :: r, m, K => match c with
    | .own t k off n _ => memK m k fun b => match b with
      | .row t' l => match tyB t' t with
        | true => asK t' t l fun l => off + n ≤ l.length ∧ frzK r (mdel m k) fun cs rd => K (.vec t ((l.drop off).take n) :: cs) ((k, .row t l) :: rd)
        | false => False
      | .box _ => False
    | c => frzK r m fun cs rd => K (c :: cs) rd

def nones (rd : List (Nat × Blk)) : List (Nat × Option Blk) := match rd with
  | [] => []
  | (k, _) :: r => (k, none) :: nones r

theorem frzK_ok : ∀ (cs : List AV) {m : Mem} {K : List AV → List (Nat × Blk) → Prop}, frzK cs m K → ∃ cs' rd, K cs' rd ∧ (∀ p ∈ rd, mget m p.1 = some p.2) ∧
    ∀ (m' : Nat → Option Blk) (w : World) (g : G) (lim : Nat), MSim w g lim m' → (∀ p ∈ rd, m' p.1 = some p.2) → ∃ g1, MSim w g1 lim (putsM (nones rd) m') ∧ (∀ base, LeG base g g1) ∧
      (∀ v x, Rep w g lim v x → Rep w g1 lim v x) ∧ ∀ xs : List Value, RepL w g lim cs xs.toArray → RepL w g1 lim cs' xs.toArray := by
  intro cs
  induction cs with
  | nil => intro m K h; exact ⟨[], [], h, by simp, fun m' w g lim hm _ => ⟨g, hm, fun base => LeG.refl base g, fun v x h => h, fun xs h => h⟩⟩
  | cons c r ih =>
    intro m K h
    have other : (frzK r m fun cs rd => K (c :: cs) rd) → ∃ cs' rd, K cs' rd ∧ (∀ p ∈ rd, mget m p.1 = some p.2) ∧
        ∀ (m' : Nat → Option Blk) (w : World) (g : G) (lim : Nat), MSim w g lim m' → (∀ p ∈ rd, m' p.1 = some p.2) → ∃ g1, MSim w g1 lim (putsM (nones rd) m') ∧ (∀ base, LeG base g g1) ∧
          (∀ v x, Rep w g lim v x → Rep w g1 lim v x) ∧ ∀ xs : List Value, RepL w g lim (c :: r) xs.toArray → RepL w g1 lim cs' xs.toArray := by
      intro h
      obtain ⟨cs', rd, hK, hrd, hh⟩ := ih h
      refine ⟨_, _, hK, hrd, fun m' w g lim hm hr => ?_⟩
      obtain ⟨g1, h1, h2, h3, h4⟩ := hh m' w g lim hm hr
      refine ⟨g1, h1, h2, h3, fun xs hx => ?_⟩
      cases xs with
      | nil => have := hx.1; simp at this
      | cons x xs =>
        refine RepL.cons0 (h3 _ _ (hx.2 0 c x (by simp) (by simp))) (h4 xs ⟨by have := hx.1; simpa using this, fun i c' x' hc hx' => hx.2 (i + 1) c' x' (by simpa using hc) (by simpa using hx')⟩)
    cases c with
    | own t k off n cc =>
      simp only [frzK] at h
      obtain ⟨b, hb, h⟩ := memK_ok h
      cases b with
      | box _ => exact h.elim
      | row t' l =>
      simp only at h
      cases ht : tyB t' t with
      | false => rw [ht] at h; exact h.elim
      | true =>
      rw [ht] at h
      have e1 := tyB_ok ht
      subst e1
      obtain ⟨e2, h2⟩ := asK_ok h
      obtain ⟨hlen, h3⟩ := h2
      obtain ⟨cs', rd, hK, hrd, hh⟩ := ih h3
      have hcast : (e2 ▸ l) = l := rfl
      rw [hcast] at hK hlen
      have hne : ∀ p ∈ rd, p.1 ≠ k := fun p hp e => by
        have := hrd p hp
        rw [mget_mdel, e] at this
        simp at this
      refine ⟨_, _, hK, fun p hp => ?_, fun m' w g lim hm hr => ?_⟩
      · rcases List.mem_cons.1 hp with rfl | hp
        · exact hb
        · have := hrd p hp
          rw [mget_mdel, if_neg (fun e => hne p hp e.symm)] at this
          exact this
      · have hk : m' k = some (.row t' l) := hr (k, .row t' l) (by simp)
        have hal : g.al k := (hm.al k).2 (by simp [hk])
        obtain ⟨g1, q1, q2, q3, q4⟩ := hh (put m' k none) w (g.freeze k) lim (hm.freeze hal) (fun p hp => by rw [put_ne _ _ (fun e => hne p hp e.symm)]; exact hr p (by simp [hp]))
        refine ⟨g1, q1, fun base => (LeG.freeze base g k).trans (q2 base), fun v x hv => q3 v x (hv.freeze k), fun xs hx => ?_⟩
        cases xs with
        | nil => have := hx.1; simp at this
        | cons x xs =>
          refine RepL.cons0 (q3 _ _ (Rep.toVec hm hk hlen (hx.2 0 (.own t' k off n cc) x (by simp) (by simp)))) (q4 xs ⟨by have := hx.1; simpa using this, fun i c' x' hc hx' => (hx.2 (i + 1) c' x' (by simpa using hc) (by simpa using hx')).freeze k⟩)
    | _ => exact other h

/-- Cells as elements. -/
def chopK (tt : Ty) : Nat → List AV → (List (El tt) → Prop) → Prop
  | 0, cs, K => match cs with
    | [] => K []
    | _ => False
  | n + 1, cs, K => takeK cs (csz tt) fun c => dropK cs (csz tt) fun r => ofK tt c fun e => chopK tt n r fun l => K (e :: l)

theorem LeL.repL {w : World} {g : G} {lim : Nat} {a b : List AV} (h : LeL a b) {xs : Array Value} (hr : RepL w g lim a xs) : RepL w g lim b xs :=
  ⟨by rw [← h.length]; exact hr.1, fun i c x hc hx => by obtain ⟨c', h1, h2⟩ := h.get hc; exact h2 _ _ _ _ (hr.2 i c' x h1 hx)⟩
theorem LeL.app {a b a' b' : List AV} (h : LeL a a') (h' : LeL b b') : LeL (a ++ b) (a' ++ b') := by
  induction h with
  | nil => exact h'
  | cons h _ ih => exact .cons h ih

theorem chopK_ok {tt : Ty} : ∀ (n : Nat) {cs : List AV} {K : List (El tt) → Prop}, chopK tt n cs K → ∃ l, K l ∧ l.length = n ∧ LeL cs (flat tt l)
  | 0, cs, K, h => by
    cases cs with
    | nil => exact ⟨[], h, rfl, .nil⟩
    | cons _ _ => exact h.elim
  | n + 1, cs, K, h => by
    simp only [chopK] at h
    obtain ⟨h1, h⟩ := takeK_ok h
    obtain ⟨h2, h⟩ := dropK_ok h
    obtain ⟨e, h, hle⟩ := ofK_ok h
    obtain ⟨l, hK, hl, hle2⟩ := chopK_ok n h
    refine ⟨e :: l, hK, by simp [hl], ?_⟩
    have h3 : flat tt (e :: l) = cells tt e ++ flat tt l := by simp [flat]
    rw [h3, ← List.take_append_drop (csz tt) cs]
    exact hle.app hle2

/-- A slice literal. -/
def litK (P : Program) (C : Cfg) (base : Nat) (m : Mem) (f : List AV) (dst : Option Nat) (t : TypeId) (len : Nat) (ps : List (Nat × Operand)) (K : Act1 → Prop) : Prop :=
  match dst with
  | some d => match Nat.blt (2 * d + 2) 200000 with
    | true => match P.underlying t with
      | some (.slice e) => match C.ty e with
        | some tt => match Nat.ble len 1000 with
          | true => fillK (fun i => some (i * csz tt, csz tt)) f ps (flat tt (List.replicate len (dflt tt))) fun cs => frzK cs m fun cs' rd => chopK tt len cs' fun l =>
              odK base d fun e => K ⟨.own tt e 0 len (some len), rd, nones rd ++ [(e, some (.row tt l))], [e]⟩
          | false => False
        | none => False
      | _ => False
    | false => False
  | none => False

theorem putsM_append (a b : List (Nat × Option Blk)) (m : Nat → Option Blk) : putsM (a ++ b) m = putsM b (putsM a m) := by
  induction a generalizing m with
  | nil => rfl
  | cons p r ih => obtain ⟨k, x⟩ := p; simp only [List.cons_append, putsM]; exact ih _
theorem fgtM_nones {k : Nat} (rd : List (Nat × Blk)) (m : Nat → Option Blk) : putsM (nones rd) (fgtM k m) = fgtM k (putsM (nones rd) m) := by
  induction rd generalizing m with
  | nil => rfl
  | cons p r ih => obtain ⟨j, b⟩ := p; simp only [nones, putsM, put_fgtM]; exact ih _

theorem run_buildSlice' {P : Program} (w : World) (t e : TypeId) (len : Nat) (parts : Array (Nat × Value)) (cs : Array Value) (ie : TypeInfo) (z : Value) (hp : 0 < ie.size)
    (hu : P.underlying t = some (.slice e)) (hie : P.info? e = some ie) (hz : ie.zero = some z) (hsmall : ¬ len * ie.size > 2 ^ 24)
    (h : Instr.fill (fun i => some (i * ie.size, ie.size)) (madeCells z.cells (len * ie.size)) parts.toList = some cs) :
    (Instr.buildSlice t len parts).run P w = .ok (.slice (some ⟨w.heap.size, 0, none⟩) len len) (w.alloc (.cells cs e)) := by
  unfold madeCells at h
  by_cases h0 : len * ie.size = 0
  · rw [h0] at h
    have hl : len = 0 := by
      rcases Nat.mul_eq_zero.1 h0 with h | h
      · exact h
      · omega
    subst hl
    have hr : ∀ f : Nat → Value, Array.map f (Array.range 0) = #[] := fun f => by simp [Array.range_zero']
    rw [hr] at h
    simp [Instr.buildSlice, run_underlying hu, Go.sizeOf, typeInfo, hie, newRow, hr, h]
  · simp [Instr.buildSlice, run_underlying hu, Go.sizeOf, typeInfo, zeroValue, hie, hz, hsmall, h0, h, newRow]

theorem litK_ok {P : Program} {C : Cfg} (hC : CfgOk P C) {base : Nat} {m : Mem} {f : List AV} {o : Oper} {t : TypeId} {len : Nat} {ps : Array (Nat × Operand)} (ho : o.op = .buildSlice t len ps) {K : Act1 → Prop}
    (h : litK P C base m f o.dst t len ps.toList K) : ∃ c, K c ∧ (∀ p ∈ c.rd, mget m p.1 = some p.2) ∧ AOk P base o f c := by
  unfold litK at h
  split at h
  case h_2 => exact h.elim
  rename_i d hd
  cases hb : Nat.blt (2 * d + 2) 200000 with
  | false => rw [hb] at h; exact h.elim
  | true =>
  rw [hb] at h
  simp only at h
  split at h
  case h_2 => exact h.elim
  rename_i e ht
  cases hce : C.ty e with
  | none => rw [hce] at h; exact h.elim
  | some tt =>
  rw [hce] at h
  simp only at h
  cases hlb : Nat.ble len 1000 with
  | false => rw [hlb] at h; exact h.elim
  | true =>
  rw [hlb] at h
  have hlen : len ≤ 1000 := Nat.le_of_ble_eq_true hlb
  obtain ⟨cs, h, hfill⟩ := fillK_ok h
  obtain ⟨cs', rd, h, hrd, hfr⟩ := frzK_ok cs h
  obtain ⟨l, hK, hll, hle⟩ := chopK_ok len h
  rw [odK_eq] at hK
  obtain ⟨i, z, hi, hsz, hby, hz, hzc⟩ := info_of hC hce
  have hp := csz_pos tt
  have hcb : csz tt ≤ 7 := by cases tt <;> decide
  refine ⟨_, hK, hrd, fun f' m' hop hrd' w g a hs N Q hN => ?_⟩
  obtain ⟨c', hf, hrep⟩ := hfill w g (base + L) a.eval _ (madeCells_ok hzc len w g (base + L)) (fun p hp => hop p.2 (by rw [ho]; simp [Op.operands]; exact ⟨p.1, by simpa using hp⟩) _ _ _ _ (rep_aval hs p.2))
  obtain ⟨g1, hm1, hl1, hr1, hr2⟩ := hfr m' w g (base + L) hs.me hrd'
  have hs1 : Sim w g1 (base + L) f' (putsM (nones rd) m') a := ⟨⟨hs.fr.1, fun i c x hc hx => hr1 _ _ (hs.fr.2 i c x hc hx)⟩, hs.df, hm1⟩
  have hrep2 : RepL w g1 (base + L) (flat tt l) c' := hle.repL (by have := hr2 c'.toList (by simpa using hrep); simpa using this)
  have hc' : c'.size = len * csz tt := by have := hrep2.1; rw [flat_length, hll] at this; exact this.symm
  have hmul : len * csz tt ≤ 1000 * 7 := Nat.mul_le_mul hlen hcb
  refine newRow_ok hb hs1 (tt := tt) (l := l) (len := len) (cap := len) (Nat.le_refl _) hc' (e := e) hrep2 ?_ N Q ?_
  · have hrun := run_buildSlice' (P := P) w t e len (ps.map fun p => (p.1, a.eval p.2)) c' i z (by omega) ht hi hz (by rw [hsz]; omega) (by rw [hsz]; simpa using hf)
    unfold execOp; rw [ho]; simp only [Sem.run_bind]; rw [hrun]; rfl
  · intro w' g' a' q1 q2 q3
    refine hN w' g' a' ?_ ⟨q2.os, q2.tape, q2.output, q2.size, fun b hb => q2.same b ((hl1 base).ro b hb), fun b hb => q2.others b ((hl1 base).no b hb)⟩ ((hl1 base).trans q3)
    simp only [Act1.fr, Act1.me, fgtsF, fgtsM, putsM_append, putsM, fgtM_nones]
    exact q1

/-- cap. -/
def capK (P : Program) (t : TypeId) (v : AV) (K : AV → Prop) : Prop :=
  match P.underlying t with
  | some (.slice _) => match v with
    | .own _ _ _ _ (some c) => K (.lit (.int .i64 c))
    | .lit (.slice none _ c) => K (.lit (.int .i64 c))
    | .emp _ => K (.lit (.int .i64 0))
    | _ => False
  | _ => False
theorem capK_ok {P : Program} {t ty : TypeId} {a : AV} {K : AV → Prop} (h : capK P t a K) :
    ∃ v, K v ∧ ∀ (w : World) (g : G) (lim : Nat) (xa : Value), Rep w g lim a xa → ∃ r, (Builtin.cap_ #[t] ty #[xa]).run P w = .ok r w ∧ Rep w g lim v r := by
  unfold capK at h
  split at h
  case h_2 => exact h.elim
  rename_i e hu
  split at h
  · refine ⟨_, h, fun w g lim xa ha => ?_⟩
    cases ha with
    | own _ _ _ _ b cap _ hk hc hcc hh => obtain rfl := hcc _ rfl; exact ⟨_, by simp [Builtin.cap_, run_underlying hu, goInt], .lit _⟩
    | ownE _ _ _ _ ad hk hcc => obtain rfl := hcc _ rfl; exact ⟨_, by simp [Builtin.cap_, run_underlying hu, goInt], .lit _⟩
  · refine ⟨_, h, fun w g lim xa ha => ?_⟩
    rw [rep_lit ha]
    exact ⟨_, by simp [Builtin.cap_, run_underlying hu, goInt], .lit _⟩
  · refine ⟨_, h, fun w g lim xa ha => ?_⟩
    cases ha with
    | emp _ ad => exact ⟨_, by simp [Builtin.cap_, run_underlying hu, goInt], .lit _⟩
  · exact h.elim

theorem exec_copy {P : Program} {o : Oper} {x y : Operand} {ats : Array TypeId} (ho : o.op = .call { callee := .builtin .copy, args := #[x, y], argTypes := ats }) {ρ : Operand → Value} {w w' : World} {r : Value}
    (h : (Builtin.copy_ ats o.type #[ρ x, ρ y]).run P w = .ok r w') : (execOp ρ o).run P w = .ok (.value r) w' := by
  unfold execOp; rw [ho]; simp [resolve, invoke, builtin, h]
theorem exec_clear {P : Program} {o : Oper} {x : Operand} {ats : Array TypeId} (ho : o.op = .call { callee := .builtin .clear, args := #[x], argTypes := ats }) {ρ : Operand → Value} {w w' : World} {r : Value}
    (h : (Builtin.clear_ ats o.type #[ρ x]).run P w = .ok r w') : (execOp ρ o).run P w = .ok (.value r) w' := by
  unfold execOp; rw [ho]; simp [resolve, invoke, builtin, h]

/-- Cells written upon an own row. -/
def upon {tt : Ty} (l : List (El tt)) (p : Nat) (l2 : List (El tt)) : List (El tt) := l.take p ++ (l2 ++ l.drop (p + l2.length))

theorem write_ok {P : Program} {base : Nat} {o : Oper} {f' : List AV} {m' : Nat → Option Blk} {w w' : World} {g : G} {a : Act} (hs : Sim w g (base + L) f' m' a) {k : Nat} {tt : Ty} {l l2 : List (El tt)} (hmk : m' k = some (.row tt l)) (hz0 : 0 < g.sz k) {p : Nat} {news : List Value} {c0 : Array Value} {ty0 : TypeId}
    (b1 : w.heap[g.be k]? = some (.cells c0 ty0 (0, 0))) (r2 : w'.heap[g.be k]? = some (.cells (setRange c0 (p * csz tt) news) ty0 (0, 0))) (r3 : ∀ b, b ≠ g.be k → w'.heap[b]? = w.heap[b]?) (r4 : w'.heap.size = w.heap.size) (r5 : w'.os = w.os) (r6 : w'.tape = w.tape) (r7 : w'.output = w.output)
    (hn : RepL w g (base + L) (flat tt l2) news.toArray) (hp : p ≤ l.length) (hfit : (p + l2.length) * csz tt ≤ g.sz k) {v : AV} {r : Value} (hv : Rep w g (base + L) v r) :
    Sim w' g (base + L) (fput f' o.dst v) (put m' k (some (.row tt (upon l p l2)))) (a.put o.dst r) ∧ Tr g w w' := by
  have hal : g.al k := (hs.me.al k).2 (by simp [hmk])
  obtain ⟨c1, ty1, d1, d2, d3, d4⟩ := (hs.me.blk k _ hmk).getRow hz0
  rw [b1] at d1
  cases d1
  have hro : ∀ b, g.ro b → w'.heap[b]? = w.heap[b]? := fun b hr => r3 b (fun e => hs.me.nro k hal hz0 (e ▸ hr))
  have hblk := row_write (l2 := l2) d2 d3 d4 hro r2 hn hp hfit (l.drop (p + l2.length)) (.inr rfl)
  have hs1 : Sim w' g (base + L) f' (put m' k (some (.row tt (upon l p l2)))) a := ⟨hs.fr.same hro, hs.df, hs.me.write hal hz0 _ (by omega) (fun b hb _ => r3 b hb) hblk⟩
  exact ⟨hs1.put (hv.mono ⟨fun _ h => h, hro⟩ (Nat.le_refl _) fun _ _ ha => ⟨ha, rfl, rfl⟩) o.dst, ⟨r5, r6, r7, by omega, hro, fun b hb => r3 b (fun e => (hs.me.nof b hb).2.2 k hal hz0 e.symm)⟩⟩

theorem upon_nil {tt : Ty} (l : List (El tt)) (p : Nat) : upon l p [] = l := by simp [upon]
theorem put_id {m : Nat → Option Blk} {k : Nat} {b : Blk} (h : m k = some b) : put m k (some b) = m := by
  funext i; simp only [put]; split
  · rename_i e; rw [← e, h]
  · rfl

/-- Of a slice that is copied from, as much as there is room for. -/
def shortV (b : AV) (len : Nat) : AV := match b with
  | .own t k off n c => .own t k off (min n len) c
  | b => b

/-- copy. -/
def copyK (P : Program) (C : Cfg) (m : Mem) (ats : List TypeId) (a b : AV) (K : Act1 → Prop) : Prop :=
  match ats with
  | [t, tx] => match P.underlying t with
    | some (.slice e) => match C.ty e with
      | some tt => match P.underlying tx with
        | some (.slice _) => match a with
          | .own t' k off len _ => match tyB t' tt with
            | true => memK m k fun bl => match bl with
              | .row t2 l => asK t2 tt l fun l => srcK m tt (shortV b len) fun l2 rd2 => off ≤ l.length ∧
                  K ⟨.lit (.int .i64 ((min l2.length len : Nat) : Int)), (k, .row tt l) :: rd2, [(k, some (.row tt (upon l off (l2.take (min l2.length len)))))], []⟩
              | .box _ => False
            | false => False
          | _ => False
        | _ => False
      | none => False
    | _ => False
  | _ => False

theorem copyK_ok {P : Program} {C : Cfg} (hC : CfgOk P C) {base : Nat} {m : Mem} {f : List AV} {o : Oper} {x y : Operand} {ats : Array TypeId}
    (ho : o.op = .call { callee := .builtin .copy, args := #[x, y], argTypes := ats }) {K : Act1 → Prop} (h : copyK P C m ats.toList (aval f x) (aval f y) K) :
    ∃ c, K c ∧ (∀ p ∈ c.rd, mget m p.1 = some p.2) ∧ AOk P base o f c := by
  unfold copyK at h
  split at h
  case h_2 => exact h.elim
  rename_i t tx hats
  have hats' : ats = #[t, tx] := by rw [← Array.toArray_toList (xs := ats), hats]
  subst hats'
  split at h
  case h_2 => exact h.elim
  rename_i e ht
  cases hce : C.ty e with
  | none => rw [hce] at h; exact h.elim
  | some tt =>
  rw [hce] at h
  simp only at h
  split at h
  case h_2 => exact h.elim
  rename_i e' htx
  split at h
  case h_2 => exact h.elim
  rename_i t' k off len c hax
  cases htb : tyB t' tt with
  | false => rw [htb] at h; exact h.elim
  | true =>
  rw [htb] at h
  have e1 := tyB_ok htb
  obtain ⟨b, hb, h1⟩ := memK_ok h
  cases b with
  | box _ => exact h1.elim
  | row t2 l =>
  obtain ⟨e2, h2⟩ := asK_ok h1
  clear h1 h
  subst e2
  subst e1
  obtain ⟨l2, rd2, ⟨hoff, hK⟩, hrd2, hy⟩ := srcK_ok h2
  obtain ⟨i0, z0, hi0, hsz0, hby0, hz0, hzc0⟩ := info_of hC hce
  have hxm : x ∈ o.op.operands.toList := by rw [ho]; simp [Op.operands, Call.operands]
  have hym : y ∈ o.op.operands.toList := by rw [ho]; simp [Op.operands, Call.operands]
  refine ⟨_, hK, fun p hp => ?_, fun f' m' hop hrd w g a hs N Q hN => ?_⟩
  · rcases List.mem_cons.1 hp with rfl | hp
    · exact hb
    · exact hrd2 p hp
  have hmk : m' k = some (.row t' l) := hrd (k, .row t' l) (by simp)
  have hal : g.al k := (hs.me.al k).2 (by simp [hmk])
  have hyi : ∃ (ylen : Nat) (news : List Value), (Builtin.lenOf (a.eval y)).run P w = .ok ylen w ∧ min ylen len = min l2.length len ∧ RepL w g (base + L) (flat t' l2) news.toArray ∧ (∀ u ∈ news, u.oneCell' = true) ∧ news.length = l2.length * csz t' ∧
      ∀ n, n ≤ l2.length → (Builtin.firstCells (csz t') n (a.eval y)).run P w = .ok (news.take (n * csz t')).toArray w := by
    have hry := hop y hym _ _ _ _ (rep_aval hs y)
    have hrd3 : ∀ p ∈ rd2, m' p.1 = some p.2 := fun p hp => hrd p (by simp [hp])
    have same : ∀ {v : Value} {news : List Value} (ad : Option Addr) (n0 cap : Nat), a.eval y = .slice ad n0 cap → v = .slice ad l2.length cap → min n0 len = min l2.length len → Yields2 w g (base + L) t' v l2 news → ∃ (ylen : Nat) (news : List Value), (Builtin.lenOf (a.eval y)).run P w = .ok ylen w ∧ min ylen len = min l2.length len ∧ RepL w g (base + L) (flat t' l2) news.toArray ∧ (∀ u ∈ news, u.oneCell' = true) ∧ news.length = l2.length * csz t' ∧
      ∀ n, n ≤ l2.length → (Builtin.firstCells (csz t') n (a.eval y)).run P w = .ok (news.take (n * csz t')).toArray w := by
      intro v news ad n0 cap e0 e1 e2 hn
      refine ⟨n0, news, by rw [e0]; rfl, e2, hn.rep, hn.one, hn.len, fun n hle => ?_⟩
      have hnl := hn.len
      have hml : n * csz t' ≤ l2.length * csz t' := Nat.mul_le_mul_right _ hle
      rcases hn.at_ with ⟨ad2, cp, e3, h1⟩ | ⟨cp, e3, e4, e5⟩
      · rw [e1] at e3
        cases e3
        rw [e0]
        refine run_firstCells_some w _ _ ad2 _ _ _ (by rw [List.length_take]; omega) fun j v hj => ?_
        rw [List.getElem?_take] at hj
        split at hj
        · exact h1 j v hj
        · cases hj
      · rw [e1] at e3
        injection e3 with e6 _ _
        subst e6
        rw [e0, e5]; simp [Builtin.firstCells]
    cases hb0 : aval f y with
    | own t4 k4 off4 n4 c4 =>
      rw [hb0] at hry hy
      generalize hE : a.eval y = E at hry
      cases hry with
      | own _ _ _ _ bb cap _ hk hc hcc hh =>
        obtain ⟨news, hn⟩ := hy m' w g (base + L) (.slice (some ⟨bb, off4 * csz t4, none⟩) (min n4 len) cap) hs.me hrd3 (.own _ _ _ _ bb cap _ hk (Nat.le_trans (Nat.min_le_left _ _) hc) hcc hh)
        have hl2 : l2.length = min n4 len := by
          rcases hn.at_ with ⟨ad2, cp, e3, h1⟩ | ⟨cp, e3, e4, e5⟩
          · injection e3 with _ e4 _; exact e4.symm
          · injection e3 with e4 _ _; cases e4
        rw [← hE]
        exact same (some ⟨bb, off4 * csz t4, none⟩) n4 cap hE (by rw [hl2]) (by rw [hl2]; omega) hn
      | ownE _ _ _ _ ad hk hcc =>
        have hz : shortV (.own t4 k4 off4 0 c4) len = .own t4 k4 off4 0 c4 := by simp [shortV]
        rw [hz] at hy
        obtain ⟨news, hn⟩ := hy m' w g (base + L) (.slice ad 0 0) hs.me hrd3 (.ownE _ _ _ _ ad hk hcc)
        have hl2 : l2.length = 0 := by
          rcases hn.at_ with ⟨ad2, cp, e3, h1⟩ | ⟨cp, e3, e4, e5⟩
          · injection e3 with _ e4 _; exact e4.symm
          · rw [e4]; rfl
        rw [← hE]
        exact same ad 0 0 hE (by rw [hl2]) (by rw [hl2]) hn
    | _ =>
      rw [hb0] at hry hy
      obtain ⟨news, hn⟩ := hy m' w g (base + L) (a.eval y) hs.me hrd3 hry
      rcases hn.at_ with ⟨ad2, cp, e3, h1⟩ | ⟨cp, e3, e4, e5⟩
      · exact same (some ad2) l2.length cp e3 e3 rfl hn
      · exact same none 0 cp e3 (by rw [e3, e4]; rfl) (by rw [e4]; rfl) hn
  obtain ⟨ylen, news, hlenof, hmin, hnrep, hnone, hnl, hfirst⟩ := hyi
  have hrx := hop x hxm _ _ _ _ (rep_aval hs x)
  rw [hax] at hrx
  have noop : ∀ (ad : Option Addr) (cap : Nat), len = 0 → a.eval x = .slice ad 0 cap → o.wp P a w N Q := by
    intro ad cap h0 hE
    subst h0
    have hl0 : (Builtin.firstCells (csz t') 0 (a.eval y)).run P w = .ok #[] w := by simpa using hfirst 0 (Nat.zero_le _)
    have hrun : (Builtin.copy_ #[t, tx] o.type #[a.eval x, a.eval y]).run P w = .ok (goInt ((min l2.length 0 : Nat) : Int)) w := by
      rw [hE]
      cases ad <;> simp [Builtin.copy_, run_underlying ht, hlenof, Go.sizeOf, typeInfo, hi0, hsz0, hl0, storeCells]
    unfold Oper.wp
    rw [exec_copy ho hrun, Oper.upon_value]
    refine hN w g _ ?_ (Tr.refl g w) (LeG.refl base g)
    simp only [Act1.fr, Act1.me, fgtsF, fgtsM, putsM, Nat.min_zero, List.take_zero, upon_nil, put_id hmk]
    exact hs.put (.lit _) o.dst
  generalize hE : a.eval x = E at hrx
  cases hrx with
  | ownE _ _ _ _ ad hk hcc => exact noop ad 0 rfl hE
  | own _ _ _ _ b cap _ hk hc hcc hh =>
  obtain ⟨rfl, hsz⟩ := hh hal
  by_cases hl0 : len = 0
  · exact noop (some ⟨g.be k, off * csz t', none⟩) cap hl0 (by rw [hE, hl0])
  have hzp : 0 < g.sz k := Nat.lt_of_lt_of_le (Nat.mul_pos (by omega) (csz_pos t')) hsz
  obtain ⟨c0, ty0, b1, b2, b3, b4⟩ := (hs.me.blk k _ hmk).getRow hzp
  have hml : (min l2.length len) * csz t' ≤ l2.length * csz t' := Nat.mul_le_mul_right _ (Nat.min_le_left _ _)
  have hlen2 : (l2.take (min l2.length len)).length = min l2.length len := by rw [List.length_take]; omega
  have hnews2 : RepL w g (base + L) (flat t' (l2.take (min l2.length len))) (news.take (min l2.length len * csz t')).toArray := by
    rw [flat_take]
    refine ⟨by have := hnrep.1; simp at this ⊢; omega, fun i c x hc hx => ?_⟩
    rw [List.getElem?_take] at hc
    split at hc
    · rename_i hlt
      refine hnrep.2 i c x hc ?_
      simp only [List.getElem?_toArray] at hx ⊢
      rw [List.getElem?_take, if_pos hlt] at hx; exact hx
    · cases hc
  have hnl2 : (news.take (min l2.length len * csz t')).length = min l2.length len * csz t' := by rw [List.length_take]; omega
  have hone : ∀ u ∈ news.take (min l2.length len * csz t'), u.oneCell' = true := fun u hu => hnone u (List.mem_of_mem_take hu)
  have hcells := hfirst (min l2.length len) (Nat.min_le_left _ _)
  have hmn : (off + min l2.length len) * csz t' ≤ g.sz k := Nat.le_trans (Nat.mul_le_mul_right _ (by omega)) hsz
  obtain ⟨w', r1, r2, r3, r4, r5, r6, r7⟩ := run_storeCells (P := P) (g.be k) (off * csz t') ty0 _ hone 0 w c0 b1 (by rw [hnl2, b2]; rw [Nat.add_mul] at hmn; omega)
  rw [Nat.add_zero] at r2
  unfold Oper.wp
  have hrun : (Builtin.copy_ #[t, tx] o.type #[a.eval x, a.eval y]).run P w = .ok (goInt ((min l2.length len : Nat) : Int)) w' := by
    rw [hE]
    have hmm : Nat.min ylen len = min l2.length len := hmin
    simp [Builtin.copy_, run_underlying ht, hlenof, Go.sizeOf, typeInfo, hi0, hsz0, hmm, hcells, r1]
  rw [exec_copy ho hrun, Oper.upon_value]
  obtain ⟨s1, s2⟩ := write_ok (P := P) (o := o) (l2 := l2.take (min l2.length len)) hs hmk hzp b1 r2 r3 r4 r5 r6 r7 hnews2 hoff (by rw [hlen2]; exact hmn) (v := .lit (.int .i64 ((min l2.length len : Nat) : Int))) (r := goInt ((min l2.length len : Nat) : Int)) (.lit _)
  exact hN w' g _ s1 s2 (LeG.refl base g)

/-- clear. -/
def clearK (P : Program) (C : Cfg) (m : Mem) (ats : List TypeId) (a : AV) (K : Act1 → Prop) : Prop :=
  match ats with
  | [t] => match P.underlying t with
    | some (.slice e) => match C.ty e with
      | some tt => match a with
        | .own t' k off len _ => match tyB t' tt with
          | true => memK m k fun bl => match bl with
            | .row t2 l => asK t2 tt l fun l => off ≤ l.length ∧ K ⟨und, [(k, .row tt l)], [(k, some (.row tt (upon l off (List.replicate len (dflt tt)))))], []⟩
            | .box _ => False
          | false => False
        | .vec _ _ => False
        | _ => False
      | none => False
    | _ => False
  | _ => False

theorem clearK_ok {P : Program} {C : Cfg} (hC : CfgOk P C) {base : Nat} {m : Mem} {f : List AV} {o : Oper} {x : Operand} {ats : Array TypeId}
    (ho : o.op = .call { callee := .builtin .clear, args := #[x], argTypes := ats }) {K : Act1 → Prop} (h : clearK P C m ats.toList (aval f x) K) :
    ∃ c, K c ∧ (∀ p ∈ c.rd, mget m p.1 = some p.2) ∧ AOk P base o f c := by
  unfold clearK at h
  split at h
  case h_2 => exact h.elim
  rename_i t hats
  have hats' : ats = #[t] := by rw [← Array.toArray_toList (xs := ats), hats]
  subst hats'
  split at h
  case h_2 => exact h.elim
  rename_i e ht
  cases hce : C.ty e with
  | none => rw [hce] at h; exact h.elim
  | some tt =>
  rw [hce] at h
  simp only at h
  split at h
  case h_2 => exact h.elim
  case h_3 => exact h.elim
  rename_i t' k off len c hax
  cases htb : tyB t' tt with
  | false => rw [htb] at h; exact h.elim
  | true =>
  rw [htb] at h
  have e1 := tyB_ok htb
  obtain ⟨b, hb, h1⟩ := memK_ok h
  cases b with
  | box _ => exact h1.elim
  | row t2 l =>
  obtain ⟨e2, h2⟩ := asK_ok h1
  clear h1 h
  subst e2
  subst e1
  obtain ⟨hoff, hK⟩ := h2
  obtain ⟨i0, z0, hi0, hsz0, hby0, hz0, hzc0⟩ := info_of hC hce
  have hxm : x ∈ o.op.operands.toList := by rw [ho]; simp [Op.operands, Call.operands]
  refine ⟨_, hK, by simp [hb], fun f' m' hop hrd w g a hs N Q hN => ?_⟩
  have hmk : m' k = some (.row t' l) := hrd (k, .row t' l) (by simp)
  have hal : g.al k := (hs.me.al k).2 (by simp [hmk])
  have hrx := hop x hxm _ _ _ _ (rep_aval hs x)
  rw [hax] at hrx
  have noop : ∀ (ad : Option Addr) (cap : Nat), len = 0 → a.eval x = .slice ad 0 cap → o.wp P a w N Q := by
    intro ad cap h0 hE
    subst h0
    have hrun : (Builtin.clear_ #[t] o.type #[a.eval x]).run P w = .ok (.tuple #[]) w := by
      rw [hE]
      cases ad <;> simp [Builtin.clear_, run_underlying ht]
    unfold Oper.wp
    rw [exec_clear ho hrun, Oper.upon_value]
    refine hN w g _ ?_ (Tr.refl g w) (LeG.refl base g)
    simp only [Act1.fr, Act1.me, fgtsF, fgtsM, putsM, List.replicate_zero, upon_nil, put_id hmk]
    exact hs.put (.lit _) o.dst
  generalize hE : a.eval x = E at hrx
  cases hrx with
  | ownE _ _ _ _ ad hk hcc => exact noop ad 0 rfl hE
  | own _ _ _ _ b cap _ hk hc hcc hh =>
  obtain ⟨rfl, hsz⟩ := hh hal
  by_cases hl0 : len = 0
  · exact noop (some ⟨g.be k, off * csz t', none⟩) cap hl0 (by rw [hE, hl0])
  have hzp : 0 < g.sz k := Nat.lt_of_lt_of_le (Nat.mul_pos (by omega) (csz_pos t')) hsz
  obtain ⟨c0, ty0, b1, b2, b3, b4⟩ := (hs.me.blk k _ hmk).getRow hzp
  have hzs : z0.cells.size = csz t' := by have := congrArg List.length hzc0; rw [zc_length] at this; simpa using this
  have hzm : Builtin.zeroCells z0.cells len = madeCells z0.cells (len * csz t') := by unfold Builtin.zeroCells madeCells; rw [hzs]
  have hrep := madeCells_ok hzc0 len w g (base + L)
  have hnews : RepL w g (base + L) (flat t' (List.replicate len (dflt t'))) (madeCells z0.cells (len * csz t')).toList.toArray := by simpa using hrep
  have hone : ∀ u ∈ (madeCells z0.cells (len * csz t')).toList, u.oneCell' = true := fun u hu => by
    obtain ⟨i, hi⟩ := List.getElem?_of_mem hu
    have hlt : i < (madeCells z0.cells (len * csz t')).size := by have := (List.getElem?_eq_some_iff.1 hi).1; simpa using this
    have hlt2 : i < (flat t' (List.replicate len (dflt t'))).length := by rw [hrep.1]; exact hlt
    exact one_ok (hrep.2 i _ u (List.getElem?_eq_getElem hlt2) (by simpa using hi)) (one_flat (List.getElem?_eq_getElem hlt2))
  have hmn : (off + len) * csz t' ≤ g.sz k := Nat.le_trans (Nat.mul_le_mul_right _ (by omega)) hsz
  obtain ⟨w', r1, r2, r3, r4, r5, r6, r7⟩ := run_storeCells (P := P) (g.be k) (off * csz t') ty0 _ hone 0 w c0 b1 (by rw [Array.length_toList, size_madeCells, b2]; rw [Nat.add_mul] at hmn; omega)
  rw [Nat.add_zero] at r2
  have hwr := write_ok (P := P) (o := o) (l2 := List.replicate len (dflt t')) hs hmk hzp b1 r2 r3 r4 r5 r6 r7 hnews hoff (by rw [List.length_replicate]; exact hmn) (v := und) (r := .tuple #[]) (.lit _)
  unfold Oper.wp
  have hrun : ∃ w2, (Builtin.clear_ #[t] o.type #[a.eval x]).run P w = .ok (.tuple #[]) w2 ∧ w2 = w' := by
    rw [hE]
    cases len with
    | zero =>
      refine ⟨w, by simp [Builtin.clear_, run_underlying ht], ?_⟩
      have : (madeCells z0.cells (0 * csz t')).toList = [] := List.eq_nil_of_length_eq_zero (by rw [Array.length_toList, size_madeCells]; simp)
      rw [this] at r1
      simp [storeCells] at r1
      exact r1
    | succ n =>
      refine ⟨w', ?_, rfl⟩
      rw [← hzm] at r1
      simp [Builtin.clear_, run_underlying ht, zeroValue, typeInfo, hi0, hz0, r1]
  obtain ⟨w2, hrun, rfl⟩ := hrun
  rw [exec_clear ho hrun, Oper.upon_value]
  exact hN _ g _ hwr.1 hwr.2 (LeG.refl base g)

end Eng
