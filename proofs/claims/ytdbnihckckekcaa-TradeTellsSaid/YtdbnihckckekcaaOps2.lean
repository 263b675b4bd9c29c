/- THE OPERATIONS OVER ABSTRACT VALUES, second part: memory. -/
import Derived.Test.YtdbnihckckekcaaOps
set_option linter.unusedSimpArgs false
set_option linter.unusedVariables false
namespace Eng
open Go Go.RowKit

/-- What surely fits one cell. -/
def one : AV → Bool
  | .tt => true
  | .ff => true
  | .lit v => v.oneCell'
  | .vec _ _ => true
  | .emp _ => true
  | .bl _ _ => true
  | .own _ _ _ _ _ => true
  | .ptr _ _ => true
  | .rptr _ _ _ _ => true
  | .vptr _ _ _ _ => true
  | .clo _ _ _ => true
  | _ => false
def ones : List AV → Bool
  | [] => true
  | a :: r => match one a with | true => ones r | false => false

theorem one_ok {w : World} {g : G} {lim : Nat} {v : AV} {x : Value} (h : Rep w g lim v x) (h1 : one v = true) : x.oneCell' = true := by
  cases h <;> first | rfl | exact h1 | (simp [one] at h1)

theorem rep_ptr {w : World} {g : G} {lim k off : Nat} {x : Value} (h : Rep w g lim (.ptr k off) x) (ha : g.al k) : x = .pointer (some ⟨g.be k, off, none⟩) := by
  cases h with | ptr _ _ b hk h => rw [h ha]
theorem rep_rptr {w : World} {g : G} {lim k i off : Nat} {t : Ty} {x : Value} (h : Rep w g lim (.rptr t k i off) x) (ha : g.al k) : x = .pointer (some ⟨g.be k, i * csz t + off, none⟩) := by
  cases h with | rptr _ _ _ _ b hk h => rw [h ha]

theorem ones_get {cs : List AV} (h : ones cs = true) {i : Nat} {c : AV} (hc : cs[i]? = some c) : one c = true := by
  induction cs generalizing i with
  | nil => simp at hc
  | cons a r ih =>
    simp only [ones] at h
    cases ha : one a with
    | false => rw [ha] at h; cases h
    | true =>
      rw [ha] at h
      cases i with
      | zero => simp at hc; subst hc; exact ha
      | succ i => simp at hc; exact ih h hc

/-- The cells of a value. -/
def cellsK (v : AV) (K : List AV → Prop) : Prop :=
  match v with
  | .agg cs => match ones cs with | true => K cs | false => False
  | v => match one v with | true => K [v] | false => False

theorem cells_one {x : Value} (h : x.oneCell' = true) : x.cells = #[x] := by cases x <;> first | rfl | (simp [Value.oneCell'] at h)

theorem cellsK_ok {v : AV} {K : List AV → Prop} (h : cellsK v K) : ∃ cs, K cs ∧ (∀ {w : World} {g : G} {lim : Nat} {x : Value}, Rep w g lim v x →
    cs.length = x.cells.size ∧ (∀ (i : Nat) c y, cs[i]? = some c → x.cells[i]? = some y → Rep w g lim c y) ∧ ∀ y ∈ x.cells.toList, y.oneCell' = true) := by
  have key : ∀ v : AV, (match one v with | true => K [v] | false => False) → ∃ cs, K cs ∧ (∀ {w : World} {g : G} {lim : Nat} {x : Value}, Rep w g lim v x →
    cs.length = x.cells.size ∧ (∀ (i : Nat) c y, cs[i]? = some c → x.cells[i]? = some y → Rep w g lim c y) ∧ ∀ y ∈ x.cells.toList, y.oneCell' = true) := by
    intro v h
    cases h1 : one v with
    | false => rw [h1] at h; exact h.elim
    | true =>
      rw [h1] at h
      refine ⟨[v], h, fun {w g lim x} hr => ?_⟩
      have h2 := one_ok hr h1
      rw [cells_one h2]
      refine ⟨rfl, fun i c y hc hy => ?_, fun y hy => by simp at hy; rw [hy]; exact h2⟩
      cases i with
      | zero => simp at hc hy; subst hc; subst hy; exact hr
      | succ i => simp at hc
  cases v with
  | agg cs =>
    simp only [cellsK] at h
    cases h1 : ones cs with
    | false => rw [h1] at h; exact h.elim
    | true =>
      rw [h1] at h
      refine ⟨cs, h, fun {w g lim x} hr => ?_⟩
      cases hr with
      | agg cs xs hl hr =>
        refine ⟨hl, hr, fun y hy => ?_⟩
        obtain ⟨i, hi⟩ := List.getElem?_of_mem hy
        have hi' : xs[i]? = some y := by simpa [Value.cells] using hi
        have hlt : i < xs.size := (Array.getElem?_eq_some_iff.1 hi').1
        have hc : cs[i]? = some (cs[i]'(by omega)) := List.getElem?_eq_getElem (by omega)
        exact one_ok (hr i _ _ hc hi') (ones_get h1 hc)
  | _ => exact key _ h

def dropK : List AV → Nat → (List AV → Prop) → Prop
  | l, 0, K => K l
  | [], _ + 1, _ => False
  | _ :: r, n + 1, K => dropK r n K
def takeK : List AV → Nat → (List AV → Prop) → Prop
  | _, 0, K => K []
  | [], _ + 1, _ => False
  | a :: r, n + 1, K => takeK r n fun l => K (a :: l)
theorem dropK_ok {l : List AV} {o : Nat} {K : List AV → Prop} (h : dropK l o K) : o ≤ l.length ∧ K (l.drop o) := by
  induction o generalizing l with
  | zero => cases l <;> exact ⟨Nat.zero_le _, by simpa [dropK] using h⟩
  | succ o ih =>
    cases l with
    | nil => exact h.elim
    | cons a r => obtain ⟨h1, h2⟩ := ih h; exact ⟨by simpa using h1, by simpa using h2⟩
theorem takeK_ok {l : List AV} {n : Nat} {K : List AV → Prop} (h : takeK l n K) : n ≤ l.length ∧ K (l.take n) := by
  induction n generalizing l K with
  | zero => cases l <;> exact ⟨Nat.zero_le _, by simpa [takeK] using h⟩
  | succ n ih =>
    cases l with
    | nil => exact h.elim
    | cons a r => obtain ⟨h1, h2⟩ := ih (l := r) (K := fun l => K (a :: l)) h; exact ⟨by simpa using h1, by simpa using h2⟩

/-- Cells written over. -/
def overK : List AV → Nat → List AV → (List AV → Prop) → Prop
  | l, _, [], K => K l
  | [], _, _ :: _, _ => False
  | _ :: r, 0, v :: vs, K => overK r 0 vs fun l => K (v :: l)
  | a :: r, n + 1, v :: vs, K => overK r n (v :: vs) fun l => K (a :: l)
theorem overK_ok {l : List AV} {o : Nat} {vs : List AV} {K : List AV → Prop} (h : overK l o vs K) :
    ∃ l', K l' ∧ l'.length = l.length ∧ (vs ≠ [] → o + vs.length ≤ l.length) ∧ ∀ i, l'[i]? = if o ≤ i ∧ i < o + vs.length then vs[i - o]? else l[i]? := by
  induction l generalizing o vs K with
  | nil =>
    cases vs with
    | nil => exact ⟨[], by simpa [overK] using h, rfl, by simp, fun i => by simp⟩
    | cons v vs => simp [overK] at h
  | cons a r ih =>
    cases vs with
    | nil =>
      refine ⟨a :: r, by simpa [overK] using h, rfl, by simp, fun i => ?_⟩
      rw [if_neg (by simp only [List.length_nil]; omega)]
    | cons v vs =>
      cases o with
      | zero =>
        simp only [overK] at h
        obtain ⟨l', h1, h2, h3, h4⟩ := ih h
        refine ⟨v :: l', h1, by simp [h2], fun _ => ?_, fun i => ?_⟩
        · by_cases hv : vs = []
          · subst hv; simp
          · have := h3 hv; simp at this ⊢; omega
        · cases i with
          | zero => simp
          | succ i =>
            have := h4 i
            simp only [List.getElem?_cons_succ, this]
            by_cases hi : i < vs.length
            · rw [if_pos (by omega), if_pos (by simp; omega)]; simp
            · rw [if_neg (by omega), if_neg (by simp; omega)]
      | succ n =>
        simp only [overK] at h
        obtain ⟨l', h1, h2, h3, h4⟩ := ih h
        refine ⟨a :: l', h1, by simp [h2], fun _ => by have := h3 (by simp); simp at this ⊢; omega, fun i => ?_⟩
        cases i with
        | zero => rw [if_neg (by omega)]; simp
        | succ i =>
          have := h4 i
          simp only [List.getElem?_cons_succ, this]
          by_cases hi : n ≤ i ∧ i < n + (v :: vs).length
          · rw [if_pos hi, if_pos (by omega)]
            rw [show i + 1 - (n + 1) = i - n by omega]
          · rw [if_neg hi, if_neg (by omega)]

/-- A variable's value out of its cells. -/
def aggK (P : Program) (t : TypeId) (cs : List AV) (off : Nat) (K : AV → Prop) : Prop :=
  match isAggT P t, szOf P t with
  | some true, some n => dropK cs off fun l => takeK l n fun xs => K (.agg xs)
  | some false, some 1 => dropK cs off fun l => takeK l 1 fun xs => match xs with | [x] => K x | _ => False
  | _, _ => False

theorem aggK_ok {P : Program} {t : TypeId} {cs : List AV} {off : Nat} {K : AV → Prop} (h : aggK P t cs off K) : ∃ v, K v ∧
    ∀ {w : World} {g : G} {lim b o : Nat} (xs : Nat → Value), (∀ (i : Nat) c, cs[i]? = some c → w.cell? ⟨b, o + i, none⟩ = some (xs i)) → (∀ (i : Nat) c, cs[i]? = some c → Rep w g lim c (xs i)) →
      ∃ x, (Instr.loadAt t (.pointer (some ⟨b, o + off, none⟩))).run P w = .ok x w ∧ Rep w g lim v x := by
  unfold aggK at h
  split at h
  · rename_i n ha hs
    obtain ⟨h1, h2⟩ := dropK_ok h
    obtain ⟨h3, h4⟩ := takeK_ok h2
    refine ⟨_, h4, fun {w g lim b o} xs hw hr => ?_⟩
    simp only [List.length_drop] at h3
    have hl : ((List.range n).map fun j => xs (off + j)).length = n := by simp
    refine ⟨.agg ((List.range n).map fun j => xs (off + j)).toArray, ?_, ?_⟩
    · refine run_loadAgg b (o + off) _ ha (by rw [hl]; exact hs) fun j x hj => ?_
      have hjn : j < n := by have := (List.getElem?_eq_some_iff.1 hj).1; simpa using this
      simp only [List.getElem?_map, List.getElem?_range hjn, Option.map_some, Option.some.injEq] at hj
      subst hj
      have := hw (off + j) _ (List.getElem?_eq_getElem (by omega))
      rw [Nat.add_assoc]; exact this
    · refine .agg _ _ (by simp [List.length_take, List.length_drop]; omega) fun i c x hc hx => ?_
      have hin : i < n := by have := (List.getElem?_eq_some_iff.1 hc).1; simp at this; omega
      rw [List.getElem?_take, if_pos hin, List.getElem?_drop] at hc
      simp [List.getElem?_range hin] at hx
      subst hx
      exact hr _ _ hc
  · rename_i ha hs
    obtain ⟨h1, h2⟩ := dropK_ok h
    obtain ⟨h3, h4⟩ := takeK_ok h2
    simp only [List.length_drop] at h3
    have hc : cs[off]? = some (cs[off]'(by omega)) := List.getElem?_eq_getElem (by omega)
    have he : (cs.drop off).take 1 = [cs[off]'(by omega)] := by
      rw [List.drop_eq_getElem_cons (by omega), List.take_succ_cons, List.take_zero]
    rw [he] at h4
    refine ⟨_, h4, fun {w g lim b o} xs hw hr => ⟨xs off, run_loadOne b (o + off) _ ha (hw _ _ hc), hr _ _ hc⟩⟩
  · exact h.elim

/-- Element i of a list. -/
def elt (t : Ty) (l : List (El t)) (i : Nat) : El t := (l[i]?).getD (dflt t)
theorem elt_get (t : Ty) (l : List (El t)) (i : Nat) (h : i < l.length) : l[i]? = some (elt t l i) := by
  simp [elt, List.getElem?_eq_getElem h]

def memK (m : Mem) (k : Nat) (K : Blk → Prop) : Prop := match m with
  | [] => False
  | (i, b) :: r => match Nat.beq i k with | true => K b | false => memK r k K
theorem memK_ok {m : Mem} {k : Nat} {K : Blk → Prop} (h : memK m k K) : ∃ b, mget m k = some b ∧ K b := by
  induction m with
  | nil => exact h.elim
  | cons p r ih =>
    obtain ⟨i, b⟩ := p
    simp only [memK] at h
    simp only [mget]
    cases hb : Nat.beq i k with
    | true => rw [hb] at h; exact ⟨b, rfl, h⟩
    | false => rw [hb] at h; exact ih h

/-- A load. -/
def loadK (P : Program) (m : Mem) (t : TypeId) (a : AV) (K : Act1 → Prop) : Prop :=
  match a with
  | .ptr k off => memK m k fun b => match b with
    | .box cs => aggK P t cs off fun v => K ⟨v, [(k, .box cs)], [], []⟩
    | .row _ _ => False
  | .rptr tt k i off => memK m k fun b => match b with
    | .box _ => False
    | .row t' l => match Nat.beq (csz tt) (csz t') with
      | true => i < l.length ∧ aggK P t (cells t' (elt t' l i)) off fun v => K ⟨v, [(k, .row t' l)], [], []⟩
      | false => False
  | .vptr tt l i off => i < l.length ∧ aggK P t (cells tt (elt tt l i)) off fun v => K (vA v)
  | _ => False

theorem execOp_load {P : Program} {o : Oper} {t : TypeId} {x : Operand} (ho : o.op = .load t x) (ρ : Operand → Value) (w : World) {y : Value} (h : (Instr.loadAt t (ρ x)).run P w = .ok y w) :
    (execOp ρ o).run P w = .ok (.value y) w := by
  unfold execOp; rw [ho]; simp [h]

theorem flat_elt {t : Ty} {l : List (El t)} {i : Nat} (h : i < l.length) {j : Nat} {c : AV} (hc : (cells t (elt t l i))[j]? = some c) : (flat t l)[i * csz t + j]? = some c := by
  have hj : j < csz t := by have := (List.getElem?_eq_some_iff.1 hc).1; rwa [cells_length] at this
  rw [flat_get t l i _ (elt_get t l i h) j hj]; exact hc

theorem loadK_ok {P : Program} {base : Nat} {m : Mem} {f : List AV} {o : Oper} {t : TypeId} {x : Operand} (ho : o.op = .load t x) {K : Act1 → Prop} (h : loadK P m t (aval f x) K) :
    ∃ c, K c ∧ (∀ p ∈ c.rd, mget m p.1 = some p.2) ∧ AOk P base o f c := by
  have hx : x ∈ o.op.operands.toList := by rw [ho]; simp [Op.operands]
  cases ha : aval f x <;> rw [ha] at h <;> simp only [loadK] at h
  case ptr k off =>
    obtain ⟨b, hb, h⟩ := memK_ok h
    cases b with
    | row t' l => exact h.elim
    | box cs =>
      simp only at h
      obtain ⟨v, hK, hv⟩ := aggK_ok h
      refine ⟨_, hK, by simp [hb], AOk.val fun f' m' w g a hs hop hrd => ?_⟩
      have hm : m' k = some (.box cs) := hrd (k, .box cs) (by simp)
      have hal : g.al k := (hs.me.al k).2 (by simp [hm])
      have hr := hop x hx
      rw [ha] at hr
      have he : a.eval x = .pointer (some ⟨g.be k, off, none⟩) := rep_ptr hr hal
      obtain ⟨_, c, ty, b1, b2, b3, b4⟩ := hs.me.blk k _ hm
      obtain ⟨y, e1, e2⟩ := hv (w := w) (g := g) (lim := base + L) (b := g.be k) (o := 0) (fun i => (c[i]?).getD undef)
        (fun i a hi => by
          have hlt : i < c.size := by have := (List.getElem?_eq_some_iff.1 hi).1; omega
          rw [Nat.zero_add, cell_of_row w _ i c ty _ b1, Array.getElem?_eq_getElem hlt]; simp)
        (fun i a hi => by
          have hlt : i < c.size := by have := (List.getElem?_eq_some_iff.1 hi).1; omega
          have := b4 i a c[i] hi (Array.getElem?_eq_getElem hlt)
          simpa [Array.getElem?_eq_getElem hlt] using this)
      exact ⟨y, execOp_load ho _ w (by rw [he]; simpa using e1), e2⟩
  case rptr tt k i off =>
    obtain ⟨b, hb, h⟩ := memK_ok h
    cases b with
    | box cs => exact h.elim
    | row t' l =>
      simp only at h
      cases hcs : Nat.beq (csz tt) (csz t') with
      | false => rw [hcs] at h; exact h.elim
      | true =>
        rw [hcs] at h
        obtain ⟨hi, h⟩ := h
        obtain ⟨v, hK, hv⟩ := aggK_ok h
        refine ⟨_, hK, by simp [hb], AOk.val fun f' m' w g a hs hop hrd => ?_⟩
        have hm : m' k = some (.row t' l) := hrd (k, .row t' l) (by simp)
        have hal : g.al k := (hs.me.al k).2 (by simp [hm])
        have hr := hop x hx
        rw [ha] at hr
        have he : a.eval x = .pointer (some ⟨g.be k, i * csz t' + off, none⟩) := by
          rw [← nbt.1 hcs]; exact rep_rptr hr hal
        have hbr := hs.me.blk k _ hm
        obtain ⟨c, ty, b1, b2, b3, b4⟩ := hbr.getRow (Nat.lt_of_lt_of_le (Nat.mul_pos (Nat.lt_of_le_of_lt (Nat.zero_le _) hi) (csz_pos t')) hbr.le)
        obtain ⟨y, e1, e2⟩ := hv (w := w) (g := g) (lim := base + L) (b := g.be k) (o := i * csz t') (fun j => (c[i * csz t' + j]?).getD undef)
          (fun j a hj => by
            have hf := flat_elt hi hj
            have hlt : i * csz t' + j < c.size := by have := (List.getElem?_eq_some_iff.1 hf).1; omega
            rw [cell_of_row w _ _ c ty _ b1, Array.getElem?_eq_getElem hlt]; simp)
          (fun j a hj => by
            have hf := flat_elt hi hj
            have hlt : i * csz t' + j < c.size := by have := (List.getElem?_eq_some_iff.1 hf).1; omega
            have := b4 _ a c[i * csz t' + j] hf (Array.getElem?_eq_getElem hlt)
            simpa [Array.getElem?_eq_getElem hlt] using this)
        exact ⟨y, execOp_load ho _ w (by rw [he]; exact e1), e2⟩
  case vptr tt l i off =>
    obtain ⟨hi, h⟩ := h
    obtain ⟨v, hK, hv⟩ := aggK_ok h
    refine ⟨_, hK, by simp [vA], AOk.val fun f' m' w g a hs hop hrd => ?_⟩
    have hr := hop x hx
    rw [ha] at hr
    generalize hE : a.eval x = E at hr
    cases hr with
    | vptr _ _ _ _ b o' xs hro hw hrr =>
      obtain ⟨y, e1, e2⟩ := hv (w := w) (g := g) (lim := base + L) (b := b) (o := o' + i * csz tt) (fun j => xs (i * csz tt + j))
        (fun j a hj => by rw [Nat.add_assoc]; exact hw _ a (flat_elt hi hj)) (fun j a hj => hrr _ a (flat_elt hi hj))
      exact ⟨y, execOp_load ho _ w (by rw [hE, ← Nat.add_assoc]; exact e1), e2⟩
  all_goals exact h.elim

end Eng
