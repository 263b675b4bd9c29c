/- THE OPERATIONS OVER ABSTRACT VALUES, fifth part: what only reckons. -/
import Derived.Test.YtdbnihckckekcaaOps4
set_option linter.unusedSimpArgs false
set_option linter.unusedVariables false
namespace Eng
open Go Go.RowKit

/-- What is known of a program's types: which of the engine's element types one is; the structs of integers and bools that may be compared. -/
structure Cfg where
  ty : Nat → Option Ty
  eq : Nat → Bool

def kk : IntKind → IntKind → Bool
  | .i8, .i8 => true
  | .i16, .i16 => true
  | .i32, .i32 => true
  | .i64, .i64 => true
  | .u8, .u8 => true
  | .u16, .u16 => true
  | .u32, .u32 => true
  | .u64, .u64 => true
  | _, _ => false
theorem kk_ok {k k' : IntKind} (h : kk k k' = true) : k = k' := by cases k <;> cases k' <;> first | rfl | (simp [kk] at h)

/-- Are two integers the same? -/
def eqV : Value → Value → Option Bool
  | .int k a, .int k' b => match kk k k' with | true => some (a == b) | false => none
  | _, _ => none
def eqVs : List Value → List Value → Option Bool
  | [], [] => some true
  | x :: xs, y :: ys => match eqV x y, eqVs xs ys with | some a, some b => some (a && b) | _, _ => none
  | _, _ => none

/-- The cells of an element at its zero value. -/
def zc : Ty → List Value
  | .u8 => [.int .u8 0]
  | .i64 => [.int .i64 0]
  | .slot => [.int .u8 0, .int .i64 0]
  | .heap => [.int .i64 0, .int .u8 0, .int .i64 0]
  | .box => [.int .i64 0, .slice none 0 0]
  | .chunk => [.int .i64 0, .int .i64 0, .slice none 0 0, .slice none 0 0, .slice none 0 0]
  | .player => [.int .i64 0, .int .i64 0, .int .i64 0, .slice none 0 0, .int .i64 0, .slice none 0 0, .bool false]
  | .seen => [.int .i64 0, .int .i64 0, .int .i64 0]
  | .cmd => [.int .u8 0, .int .i64 0, .int .i64 0, .int .i64 0, .int .i64 0]
  | .order => [.int .i64 0, .int .i64 0, .int .u8 0, .int .i64 0, .int .i64 0, .int .i64 0, .int .i64 0]
  | .reply => [.int .i64 0, .int .i64 0, .int .i64 0]
  | .step => [.int .i64 0, .bool false, .int .i64 0, .int .i64 0]
  | .recipe => [.slice none 0 0, .int .u8 0, .int .i64 0]
  | .ints => [.slice none 0 0]
  | .orders => [.slice none 0 0]
def zeroOf (P : Program) (e : TypeId) : Option (List Value) := match P.info? e with
  | some i => match i.zero with
    | some z => some z.cells.toList
    | none => none
  | none => none

structure CfgOk (P : Program) (c : Cfg) : Prop where
  zr : ∀ e t, c.ty e = some t → zeroOf P e = some (zc t)
  mixed : P.follows .mixedOrders = true
  sz : ∀ e t, c.ty e = some t → szOf P e = some (csz t) ∧ byOf P e = some (bsz t)
  eq : ∀ t, c.eq t = true → P.eqGuardType P.depth t = false ∧ ∀ (w : World) (xs ys : List Value) (b : Bool), eqVs xs ys = some b → szOf P t = some xs.length →
    (Op.equal t (.agg xs.toArray) (.agg ys.toArray)).run P w = .ok b w

/-- An abstract value that is a scalar. -/
def scal : AV → Option Value
  | .tt => some (.bool true)
  | .ff => some (.bool false)
  | .lit v => some v
  | _ => none
theorem scal_ok {w : World} {g : G} {lim : Nat} {v : AV} {x y : Value} (h : Rep w g lim v x) (hs : scal v = some y) : x = y := by
  cases h <;> simp [scal] at hs <;> exact hs

def eqAK : List AV → List AV → (Bool → Prop) → Prop
  | [], [], K => K true
  | x :: xs, y :: ys, K => match scal x with
    | some a => match scal y with
      | some b => match eqV a b with
        | some p => match xs with
          | [] => match ys with | [] => K p | _ => False
          | _ => eqAK xs ys fun q => K (p && q)
        | none => False
      | none => False
    | none => False
  | _, _, _ => False

theorem eqAK_ok {xs ys : List AV} {K : Bool → Prop} (h : eqAK xs ys K) : ∃ p, K p ∧ xs.length = ys.length ∧ ∀ (w : World) (g : G) (lim : Nat) (a b : List Value),
    RepL w g lim xs a.toArray → RepL w g lim ys b.toArray → eqVs a b = some p := by
  induction xs generalizing ys K with
  | nil =>
    cases ys with
    | nil =>
      refine ⟨true, h, rfl, fun w g lim a b ha hb => ?_⟩
      have h1 : a.length = 0 := by have := ha.1; simpa using this.symm
      have h2 : b.length = 0 := by have := hb.1; simpa using this.symm
      rw [List.length_eq_zero_iff.1 h1, List.length_eq_zero_iff.1 h2]; rfl
    | cons y ys => exact h.elim
  | cons x xs ih =>
    cases ys with
    | nil => exact h.elim
    | cons y ys =>
      simp only [eqAK] at h
      cases hx : scal x with
      | none => rw [hx] at h; exact h.elim
      | some a0 =>
      rw [hx] at h; simp only at h
      cases hy : scal y with
      | none => rw [hy] at h; exact h.elim
      | some b0 =>
      rw [hy] at h; simp only at h
      cases hp : eqV a0 b0 with
      | none => rw [hp] at h; exact h.elim
      | some p =>
      rw [hp] at h; simp only at h
      have step : ∀ (q : Bool) (xs' ys' : List AV), (∀ (w : World) (g : G) (lim : Nat) (a b : List Value), RepL w g lim xs' a.toArray → RepL w g lim ys' b.toArray → eqVs a b = some q) →
          ∀ (w : World) (g : G) (lim : Nat) (a b : List Value), RepL w g lim (x :: xs') a.toArray → RepL w g lim (y :: ys') b.toArray → eqVs a b = some (p && q) := by
        intro q xs' ys' hq w g lim a b ha hb
        cases a with
        | nil => have := ha.1; simp at this
        | cons a1 a =>
          cases b with
          | nil => have := hb.1; simp at this
          | cons b1 b =>
            have e1 := scal_ok (ha.2 0 x a1 (by simp) (by simp)) hx
            have e2 := scal_ok (hb.2 0 y b1 (by simp) (by simp)) hy
            subst e1; subst e2
            simp only [eqVs, hp]
            rw [hq w g lim a b ⟨by have := ha.1; simpa using this, fun i c z hc hz => ha.2 (i + 1) c z (by simpa using hc) (by simpa using hz)⟩
              ⟨by have := hb.1; simpa using this, fun i c z hc hz => hb.2 (i + 1) c z (by simpa using hc) (by simpa using hz)⟩]
      cases xs with
      | nil =>
        cases ys with
        | nil =>
          refine ⟨p, h, rfl, fun w g lim a b ha hb => ?_⟩
          have := step true [] [] (fun w g lim a b ha hb => by
            have h1 : a.length = 0 := by have := ha.1; simpa using this.symm
            have h2 : b.length = 0 := by have := hb.1; simpa using this.symm
            rw [List.length_eq_zero_iff.1 h1, List.length_eq_zero_iff.1 h2]; rfl) w g lim a b ha hb
          simpa using this
        | cons y2 ys => exact h.elim
      | cons x2 xs =>
        simp only at h
        obtain ⟨q, hK, hl, hq⟩ := ih h
        exact ⟨p && q, hK, by simpa using hl, step q _ _ hq⟩

def pickK (c a b : AV) (K : AV → Prop) : Prop :=
  match c with
  | .tt => K a
  | .ff => K b
  | .lit (.bool p) => match a, b with
    | .tt, .lit (.bool y) => K (.lit (.bool (p || y)))
    | .lit (.bool x), .ff => K (.lit (.bool (p && x)))
    | .tt, .ff => K (.lit (.bool p))
    | .ff, .ff => K .ff
    | .tt, .tt => K .tt
    | .lit (.bool x), .lit (.bool y) => K (.lit (.bool (cond p x y)))
    | a, b => (p = true → K a) ∧ (p = false → K b)
  | _ => False

theorem pickK_ok {c a b : AV} {K : AV → Prop} (h : pickK c a b K) : ∃ v, K v ∧ ∀ (w : World) (g : G) (lim : Nat) (xc xa xb : Value),
    Rep w g lim c xc → Rep w g lim a xa → Rep w g lim b xb → ∃ p, xc = .bool p ∧ Rep w g lim v (if p then xa else xb) := by
  have lb : ∀ {w : World} {g : G} {lim : Nat} {v x : Value}, Rep w g lim (.lit v) x → x = v := fun h => by cases h; rfl
  have lt : ∀ {w : World} {g : G} {lim : Nat} {x : Value}, Rep w g lim .tt x → x = .bool true := fun h => by cases h; rfl
  have lf : ∀ {w : World} {g : G} {lim : Nat} {x : Value}, Rep w g lim .ff x → x = .bool false := fun h => by cases h; rfl
  unfold pickK at h
  split at h
  · exact ⟨a, h, fun w g lim xc xa xb hc ha hb => ⟨true, lt hc, by simpa using ha⟩⟩
  · exact ⟨b, h, fun w g lim xc xa xb hc ha hb => ⟨false, lf hc, by simpa using hb⟩⟩
  · rename_i p
    split at h
    · refine ⟨_, h, fun w g lim xc xa xb hc ha hb => ⟨p, lb hc, ?_⟩⟩
      rw [lt ha, lb hb]; cases p <;> simp <;> exact .lit _
    · refine ⟨_, h, fun w g lim xc xa xb hc ha hb => ⟨p, lb hc, ?_⟩⟩
      rw [lb ha, lf hb]; cases p <;> simp <;> exact .lit _
    · refine ⟨_, h, fun w g lim xc xa xb hc ha hb => ⟨p, lb hc, ?_⟩⟩
      rw [lt ha, lf hb]; cases p <;> simp <;> exact .lit _
    · refine ⟨_, h, fun w g lim xc xa xb hc ha hb => ⟨p, lb hc, ?_⟩⟩
      rw [lf ha, lf hb]; cases p <;> simp <;> exact .ff
    · refine ⟨_, h, fun w g lim xc xa xb hc ha hb => ⟨p, lb hc, ?_⟩⟩
      rw [lt ha, lt hb]; cases p <;> simp <;> exact .tt
    · refine ⟨_, h, fun w g lim xc xa xb hc ha hb => ⟨p, lb hc, ?_⟩⟩
      rw [lb ha, lb hb]; cases p <;> simp <;> exact .lit _
    · cases p with
      | true => exact ⟨_, h.1 rfl, fun w g lim xc xa xb hc ha hb => ⟨true, lb hc, by simpa using ha⟩⟩
      | false => exact ⟨_, h.2 rfl, fun w g lim xc xa xb hc ha hb => ⟨false, lb hc, by simpa using hb⟩⟩
  · exact h.elim

/-- A value that depends on operands alone. -/
def PureV (P : Program) (base : Nat) (o : Oper) (f : List AV) (v : AV) : Prop :=
  ∀ (w : World) (g : G) (a : Act), (∀ k, g.al k → True) → (∀ x ∈ o.op.operands.toList, Rep w g (base + L) (aval f x) (a.eval x)) →
    ∃ x, (execOp a.eval o).run P w = .ok (.value x) w ∧ Rep w g (base + L) v x

theorem pure_ok {P : Program} {base : Nat} {m : Mem} {f : List AV} {o : Oper} {v : AV} {K : Act1 → Prop} (hK : K (vA v)) (h : PureV P base o f v) :
    ∃ c, K c ∧ (∀ p ∈ c.rd, mget m p.1 = some p.2) ∧ AOk P base o f c :=
  ⟨_, hK, by simp [vA], AOk.val fun f' m' w g a hs hop _ => h w g a (fun _ _ => trivial) hop⟩

def notK (v : AV) (K : AV → Prop) : Prop :=
  match v with
  | .tt => K .ff
  | .ff => K .tt
  | .lit (.bool b) => K (.lit (.bool (!b)))
  | .bl p q => K (.bl q p)
  | _ => False

def unK (op : UnOp) (v : AV) (K : AV → Prop) : Prop :=
  match op with
  | .not => notK v K
  | .neg => match v with | .lit (.int k n) => arK k (0 - n) K | _ => False
  | .xor => match v with | .lit (.int k n) => K (.lit (.int k (bitR .xor k (if k.signed then -1 else k.max) n))) | _ => False
  | _ => False

def intOpK (op : BinOp) (a b : AV) (K : AV → Prop) : Prop :=
  match a with
  | .lit (.int k x) => match b with
    | .lit (.int k' y) => match kk k k' with
      | true => intK op k x y K
      | false => match op with
        | .shl => intK .shl k x y K
        | .shr => intK .shr k x y K
        | _ => False
    | _ => False
  | _ => False
def eqSelK (op : BinOp) (p : Bool) (K : AV → Prop) : Prop :=
  match op with
  | .eql => K (.lit (.bool p))
  | .neq => K (.lit (.bool (!p)))
  | _ => False
def boolOpK (op : BinOp) (a b : AV) (K : AV → Prop) : Prop :=
  match scal a with
  | some (.bool x) => match scal b with
    | some (.bool y) => eqSelK op (x == y) K
    | _ => False
  | _ => False
def strOpK (op : BinOp) (a b : AV) (K : AV → Prop) : Prop :=
  match a with
  | .lit (.string s) => match b with
    | .lit (.string s') => eqSelK op (s.toList == s'.toList) K
    | _ => False
  | _ => False
def aggOpK (P : Program) (C : Cfg) (op : BinOp) (t : TypeId) (a b : AV) (K : AV → Prop) : Prop :=
  match a with
  | .agg xs => match b with
    | .agg ys => match C.eq t with
      | true => match szOf P t with
        | some n => match Nat.beq n xs.length with
          | true => eqAK xs ys fun p => eqSelK op p K
          | false => False
        | none => False
      | false => False
    | _ => False
  | _ => False
/-- Against nil. -/
def nilOpK (op : BinOp) (a b : AV) (K : AV → Prop) : Prop :=
  match b with
  | .lit (.slice none _ _) => match a with
    | .vec _ l => match op with
      | .eql => K (.bl (l = []) True)
      | .neq => K (.bl True (l = []))
      | _ => False
    | .emp _ => match op with
      | .eql => K (.bl True True)
      | .neq => K (.bl True True)
      | _ => False
    | .own _ _ _ n _ => match op with
      | .eql => K (.bl (n = 0) True)
      | .neq => K (.bl True (n = 0))
      | _ => False
    | .lit (.slice none _ _) => match op with
      | .eql => K .tt
      | .neq => K .ff
      | _ => False
    | _ => False
  | _ => False
/-- Two operands. -/
def binK (P : Program) (C : Cfg) (op : BinOp) (t : TypeId) (a b : AV) (K : AV → Prop) : Prop :=
  match P.underlying t with
  | some (.int _) => intOpK op a b K
  | some .bool => boolOpK op a b K
  | some .string => strOpK op a b K
  | some (.struct _) => aggOpK P C op t a b K
  | some (.slice _) => nilOpK op a b K
  | _ => False

theorem run_eqGuard_int {P : Program} (op : BinOp) (t : TypeId) (x y : Operand) (a b : Value) (h : ∀ u v, ¬ (a = .agg u ∧ b = .agg v)) (h2 : a ≠ .nilIface) (w : World) :
    (eqGuard op t x y a b).run P w = .ok () w := by
  unfold eqGuard
  split
  case h_3 => rfl
  all_goals
    simp only [Bool.not_true, Bool.false_eq_true, if_false]
    cases a <;> cases b <;> first | rfl | (exact absurd rfl h2) | (exact absurd ⟨rfl, rfl⟩ (h _ _))

theorem run_eqGuard_agg {P : Program} (op : BinOp) (t : TypeId) (x y : Operand) (a b : Array Value) (h : P.eqGuardType P.depth t = false) (w : World) :
    (eqGuard op t x y (.agg a) (.agg b)).run P w = .ok () w := by
  unfold eqGuard
  split
  case h_3 => rfl
  all_goals simp [h]

end Eng
