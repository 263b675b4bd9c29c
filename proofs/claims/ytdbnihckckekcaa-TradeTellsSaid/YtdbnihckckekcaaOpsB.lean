/- THE OPERATIONS OVER ABSTRACT VALUES: structs, arrays and slices written out. -/
import Derived.Test.YtdbnihckckekcaaOps7
set_option linter.unusedSimpArgs false
set_option linter.unusedVariables false
namespace Eng
open Go Go.RowKit

theorem foldl_setRange (off : Nat) (l : List Value) : ∀ (k : Nat) (c : Array Value), (l.zipIdx k).foldl (fun cs (p : Value × Nat) => cs.setIfInBounds (off + p.2) p.1) c = setRange c (off + k) l := by
  induction l with
  | nil => intro k c; rfl
  | cons v r ih => intro k c; simp only [List.zipIdx_cons, List.foldl_cons, setRange]; rw [ih]; rfl

theorem fill_cons (place : Nat → Option (Nat × Nat)) (c : Array Value) (i : Nat) (v : Value) (r : List (Nat × Value)) {off n : Nat} (hp : place i = some (off, n)) (hn : v.cells.size = n) (hl : off + v.cells.size ≤ c.size) :
    Instr.fill place c ((i, v) :: r) = Instr.fill place (setRange c off v.cells.toList) r := by
  simp only [Instr.fill, hp]
  rw [if_neg (by simp [hn]; omega)]
  congr 1
  have := foldl_setRange off v.cells.toList 0 c
  rw [← Array.foldl_toList]
  simpa using this

theorem RepL.over {w : World} {g : G} {lim : Nat} {cs cs' vs : List AV} {c x : Array Value} {o : Nat} (h : RepL w g lim cs c) (hv : RepL w g lim vs x) (hl : o + vs.length ≤ cs.length) (h1 : cs'.length = cs.length)
    (h2 : ∀ i, cs'[i]? = if o ≤ i ∧ i < o + vs.length then vs[i - o]? else cs[i]?) : RepL w g lim cs' (setRange c o x.toList) := by
  have e1 : cs.length = c.size := h.1
  have e2 : vs.length = x.size := hv.1
  refine ⟨by rw [setRange_size, h1]; exact h.1, fun i a y ha hy => ?_⟩
  rw [h2] at ha
  rw [setRange_get _ _ _ _ (by simp; omega)] at hy
  by_cases hin : o ≤ i ∧ i < o + vs.length
  · rw [if_pos hin] at ha
    rw [if_pos (by simp; omega)] at hy
    exact hv.2 _ _ _ ha (by simpa using hy)
  · rw [if_neg hin] at ha
    rw [if_neg (by simp; omega)] at hy
    exact h.2 _ _ _ ha hy

/-- Parts laid into cells. -/
def fillK (place : Nat → Option (Nat × Nat)) (f : List AV) : List (Nat × Operand) → List AV → (List AV → Prop) → Prop
  | [], cs, K => K cs
  | (i, x) :: r, cs, K => match place i with
    | some (off, n + 1) => avalK f x fun v => cellsK v fun vs => match Nat.beq vs.length (n + 1) with
      | true => overK cs off vs fun cs => fillK place f r cs K
      | false => False
    | _ => False

theorem fillK_ok {place : Nat → Option (Nat × Nat)} {f : List AV} {ps : List (Nat × Operand)} : ∀ {cs : List AV} {K : List AV → Prop}, fillK place f ps cs K →
    ∃ cs', K cs' ∧ ∀ (w : World) (g : G) (lim : Nat) (ρ : Operand → Value) (c : Array Value), RepL w g lim cs c → (∀ p ∈ ps, Rep w g lim (aval f p.2) (ρ p.2)) →
      ∃ c', Instr.fill place c (ps.map fun p => (p.1, ρ p.2)) = some c' ∧ RepL w g lim cs' c' := by
  induction ps with
  | nil => intro cs K h; exact ⟨cs, h, fun w g lim ρ c hc _ => ⟨c, rfl, hc⟩⟩
  | cons p r ih =>
    intro cs K h
    obtain ⟨i, x⟩ := p
    simp only [fillK] at h
    cases hp : place i with
    | none => rw [hp] at h; exact h.elim
    | some q =>
    obtain ⟨off, n⟩ := q
    rw [hp] at h
    cases n with
    | zero => exact h.elim
    | succ n =>
    simp only at h
    rw [avalK_eq] at h
    obtain ⟨vs, h, hvs⟩ := cellsK_ok h
    cases hb : Nat.beq vs.length (n + 1) with
    | false => rw [hb] at h; exact h.elim
    | true =>
    rw [hb] at h
    have hlen := nbt.1 hb
    obtain ⟨cs1, h, q1, q2, q3⟩ := overK_ok h
    have hne : vs ≠ [] := by intro e; rw [e] at hlen; cases hlen
    obtain ⟨cs', hK, hr⟩ := ih h
    refine ⟨cs', hK, fun w g lim ρ c hc hps => ?_⟩
    obtain ⟨v1, v2, v3⟩ := hvs (x := ρ x) (hps (i, x) (by simp))
    replace v1 : vs.length = (ρ x).cells.size := v1
    have hcl : cs.length = c.size := hc.1
    have hq := q2 hne
    simp only [List.map_cons]
    rw [fill_cons place c i (ρ x) _ hp (by rw [← v1]; exact hlen) (by omega)]
    exact hr w g lim ρ _ (hc.over ⟨v1, v2⟩ hq q1 q3) fun p hp => hps p (by simp [hp])

/-- A struct's fields: where each lies, how many cells it has. -/
def placeS (P : Program) (fs : Array Field) (i : Nat) : Option (Nat × Nat) := match fs[i]? with
  | some f => match szOf P f.type with
    | some n => some (f.offset, n)
    | none => none
  | none => none
def allSz (P : Program) : List Field → Bool
  | [] => true
  | f :: r => match szOf P f.type with | some _ => allSz P r | none => false

theorem run_places {P : Program} {w : World} (fs : Array Field) (h : allSz P fs.toList = true) :
    ∃ ps : Array (Nat × Nat), (fs.mapM fun (f : Field) => (do pure (f.offset, ← Go.sizeOf f.type) : Sem (Nat × Nat))).run P w = .ok ps w ∧ ∀ (i : Nat), ps[i]? = placeS P fs i := by
  have key : ∀ l : List Field, allSz P l = true → ∃ ps : List (Nat × Nat), (l.mapM fun (f : Field) => (do pure (f.offset, ← Go.sizeOf f.type) : Sem (Nat × Nat))).run P w = .ok ps w ∧
      ∀ (i : Nat), ps[i]? = match (l[i]? : Option Field) with | some f => (match szOf P f.type with | some n => some (f.offset, n) | none => none) | none => none := by
    intro l
    induction l with
    | nil => intro _; exact ⟨[], by simp, fun i => by simp⟩
    | cons f r ih =>
      intro hl
      simp only [allSz] at hl
      cases hs : szOf P f.type with
      | none => rw [hs] at hl; cases hl
      | some n =>
        rw [hs] at hl
        obtain ⟨ps, h1, h2⟩ := ih hl
        refine ⟨(f.offset, n) :: ps, by simp only [List.mapM_cons, Sem.run_bind, Eng.run_sizeOf hs, Result.andThen_ok, Sem.run_pure, h1], fun i => ?_⟩
        cases i with
        | zero => simp [hs]
        | succ i => simpa using h2 i
  obtain ⟨ps, h1, h2⟩ := key fs.toList h
  refine ⟨ps.toArray, ?_, fun i => ?_⟩
  · rw [← Array.toArray_toList (xs := fs), List.mapM_toArray]
    simp only [Sem.run_map, h1, Result.andThen_ok]
  · simp only [List.getElem?_toArray, h2 i, placeS, Array.getElem?_toList]

/-- A struct or an array written out. -/
def buildK (P : Program) (f : List AV) (t : TypeId) (ps : List (Nat × Operand)) (K : AV → Prop) : Prop :=
  match P.info? t with
  | some i => match i.zero with
    | some z => match P.underlying t with
      | some (.struct fs) => match allSz P fs.toList with
        | true => litsK z.cells.toList fun cs => fillK (placeS P fs) f ps cs fun cs => K (.agg cs)
        | false => False
      | some (.array _ e) => match szOf P e with
        | some n => litsK z.cells.toList fun cs => fillK (fun i => some (i * n, n)) f ps cs fun cs => K (.agg cs)
        | none => False
      | _ => False
    | none => False
  | none => False

theorem buildK_ok {P : Program} {f : List AV} {t : TypeId} {ps : Array (Nat × Operand)} {K : AV → Prop} (h : buildK P f t ps.toList K) :
    ∃ v, K v ∧ ∀ (w : World) (g : G) (lim : Nat) (ρ : Operand → Value), (∀ p ∈ ps.toList, Rep w g lim (aval f p.2) (ρ p.2)) →
      ∃ x, (Instr.build t (ps.map fun (i, x) => (i, ρ x))).run P w = .ok x w ∧ Rep w g lim v x := by
  unfold buildK at h
  cases hi : P.info? t with
  | none => rw [hi] at h; exact h.elim
  | some i =>
  rw [hi] at h; simp only at h
  cases hz : i.zero with
  | none => rw [hz] at h; exact h.elim
  | some z =>
  rw [hz] at h; simp only at h
  have hmap : ∀ ρ : Operand → Value, (ps.map fun (i, x) => (i, ρ x)).toList = ps.toList.map fun p => (p.1, ρ p.2) := fun ρ => by simp
  cases hu : P.underlying t with
  | none => rw [hu] at h; exact h.elim
  | some d =>
  rw [hu] at h
  cases d <;> simp only at h
  case struct fs =>
    cases ha : allSz P fs.toList with
    | false => rw [ha] at h; exact h.elim
    | true =>
    rw [ha] at h
    obtain ⟨cs, h, hcs⟩ := litsK_ok h
    obtain ⟨cs', hK, hr⟩ := fillK_ok h
    refine ⟨_, hK, fun w g lim ρ hps => ?_⟩
    obtain ⟨c', e1, e2⟩ := hr w g lim ρ z.cells (by simpa using hcs w g lim) hps
    obtain ⟨pl, p1, p2⟩ := run_places (P := P) (w := w) fs ha
    have hpl : (fun i => pl[i]?) = placeS P fs := funext p2
    refine ⟨.agg c', ?_, .agg _ _ e2.1 e2.2⟩
    simp only [Instr.build, zeroValue, Sem.run_bind, Eng.run_typeInfo hi, hz, Sem.run_pure, Result.andThen_ok, Eng.run_underlying hu, p1, hpl, hmap, e1]
  case array n e =>
    cases hs : szOf P e with
    | none => rw [hs] at h; exact h.elim
    | some n =>
    rw [hs] at h
    obtain ⟨cs, h, hcs⟩ := litsK_ok h
    obtain ⟨cs', hK, hr⟩ := fillK_ok h
    refine ⟨_, hK, fun w g lim ρ hps => ?_⟩
    obtain ⟨c', e1, e2⟩ := hr w g lim ρ z.cells (by simpa using hcs w g lim) hps
    refine ⟨.agg c', ?_, .agg _ _ e2.1 e2.2⟩
    simp only [Instr.build, zeroValue, Sem.run_bind, Eng.run_typeInfo hi, hz, Sem.run_pure, Result.andThen_ok, Eng.run_underlying hu, Eng.run_sizeOf hs, hmap, e1]
  all_goals exact h.elim

end Eng
