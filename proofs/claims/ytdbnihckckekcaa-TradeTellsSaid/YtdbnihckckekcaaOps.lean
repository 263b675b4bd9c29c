/- THE OPERATIONS OVER ABSTRACT VALUES, in a form that reduces by itself, and that the model's operations do so. -/
import Derived.Test.YtdbnihckckekcaaRun
set_option linter.unusedSimpArgs false
set_option linter.unusedVariables false
namespace Eng
open Go Go.RowKit

def L : Nat := 200000

def aval (f : List AV) : Operand → AV
  | .tmp t => (f[t]?).getD und
  | .const (.bool true) => .tt
  | .const (.bool false) => .ff
  | .const v => .lit v
  | .global _ => .top
  | .func g => .lit (.func (.func g) #[] #[])

theorem rep_aval {w : World} {g : G} {lim : Nat} {f : List AV} {m : Nat → Option Blk} {a : Act} (h : Sim w g lim f m a) (x : Operand) : Rep w g lim (aval f x) (a.eval x) := by
  cases x with
  | tmp t =>
    simp only [aval, Act.eval]
    by_cases ht : t < a.tmps.size
    · have hl : f.length = a.tmps.size := h.fr.1
      have h1 : f[t]? = some (f[t]'(by rw [hl]; exact ht)) := List.getElem?_eq_getElem (by rw [hl]; exact ht)
      have h2 : a.tmps[t]? = some a.tmps[t] := Array.getElem?_eq_getElem ht
      have := h.fr.2 t _ _ h1 h2
      simpa [h1, Array.getD, ht] using this
    · have hl : f.length = a.tmps.size := h.fr.1
      have h1 : f[t]? = none := List.getElem?_eq_none (by rw [hl]; exact Nat.le_of_not_lt ht)
      simp [h1, Array.getD, ht]
      exact .lit _
  | const v =>
    cases v <;> first | exact .lit _ | skip
    rename_i b
    cases b
    · exact .ff
    · exact .tt
  | global k => exact .top _
  | func k => exact .lit _

def nthK : List AV → Nat → (AV → Prop) → Prop
  | [], _, K => K und
  | a :: _, 0, K => K a
  | _ :: r, n + 1, K => nthK r n K
theorem nthK_eq (f : List AV) (n : Nat) (K : AV → Prop) : nthK f n K = K ((f[n]?).getD und) := by
  induction f generalizing n with
  | nil => simp [nthK]
  | cons a r ih => cases n <;> simp [nthK, ih]

def avalK (f : List AV) (x : Operand) (K : AV → Prop) : Prop :=
  match x with
  | .tmp t => nthK f t K
  | .const v => match v with
    | .bool b => match b with
      | true => K .tt
      | false => K .ff
    | v => K (.lit v)
  | .global _ => K .top
  | .func g => K (.lit (.func (.func g) #[] #[]))
theorem avalK_eq (f : List AV) (x : Operand) (K : AV → Prop) : avalK f x K = K (aval f x) := by
  cases x with
  | tmp t => exact nthK_eq f t K
  | const v =>
    cases v <;> first | rfl | skip
    rename_i b; cases b <;> rfl
  | global k => rfl
  | func k => rfl

/-- What an operation does: the value for its slot; what it has read; the own blocks that it turns; what is to be forgotten. -/
structure Act1 where
  v : AV
  rd : List (Nat × Blk)
  up : List (Nat × Option Blk)
  fg : List Nat

def fgtsF : List Nat → List AV → List AV
  | [], f => f
  | k :: r, f => fgtsF r (fgtL k f)
def fgtsM : List Nat → (Nat → Option Blk) → (Nat → Option Blk)
  | [], m => m
  | k :: r, m => fgtsM r (fgtM k m)
def putsM : List (Nat × Option Blk) → (Nat → Option Blk) → (Nat → Option Blk)
  | [], m => m
  | (k, b) :: r, m => putsM r (put m k b)

def Ok (P : Program) (base : Nat) (o : Oper) (f : List AV) (m : Nat → Option Blk) (f' : List AV) (m' : Nat → Option Blk) : Prop :=
  ∀ (w : World) (g : G) (a : Act), Sim w g (base + L) f m a → ∀ (K : Act → World → Prop) (Q : Exit → Act → World → Prop),
    (∀ w' g' a', Sim w' g' (base + L) f' m' a' → Tr g w w' → LeG base g g' → K a' w') → o.wp P a w K Q

def Act1.fr (c : Act1) (f : List AV) (d : Option Nat) : List AV := fput (fgtsF c.fg f) d c.v
def Act1.me (c : Act1) (m : Nat → Option Blk) : Nat → Option Blk := putsM c.up (fgtsM c.fg m)

/-- Whatever else the frame and own memory hold. -/
def AOk (P : Program) (base : Nat) (o : Oper) (f : List AV) (c : Act1) : Prop :=
  ∀ (f' : List AV) (m' : Nat → Option Blk), (∀ x ∈ o.op.operands.toList, Le (aval f' x) (aval f x)) → (∀ p ∈ c.rd, m' p.1 = some p.2) → Ok P base o f' m' (c.fr f' o.dst) (c.me m')

theorem AOk.val {P : Program} {base : Nat} {o : Oper} {f : List AV} {v : AV} {rd : List (Nat × Blk)}
    (h : ∀ (f' : List AV) (m' : Nat → Option Blk) (w : World) (g : G) (a : Act), Sim w g (base + L) f' m' a → (∀ x ∈ o.op.operands.toList, Rep w g (base + L) (aval f x) (a.eval x)) →
      (∀ p ∈ rd, m' p.1 = some p.2) → ∃ x, (execOp a.eval o).run P w = .ok (.value x) w ∧ Rep w g (base + L) v x) : AOk P base o f ⟨v, rd, [], []⟩ := by
  intro f' m' hop hrd w g a hs K Q hK
  obtain ⟨x, hr, hv⟩ := h f' m' w g a hs (fun x hx => hop x hx _ _ _ _ (rep_aval hs x)) hrd
  unfold Oper.wp
  rw [hr, Oper.upon_value]
  exact hK w g _ (hs.put hv o.dst) (Tr.refl g w) (LeG.refl base g)

def vA (v : AV) : Act1 := ⟨v, [], [], []⟩

/-- The smallest and greatest of a kind. -/
def inR (k : IntKind) (r : Int) : Prop := k.wrap r = r
theorem in64 {r : Int} (h : -9223372036854775808 ≤ r) (h' : r ≤ 9223372036854775807) : inR .i64 r := by
  unfold inR; exact IntWalk.i64_in r ⟨h, h'⟩

def arK (k : IntKind) (r : Int) (K : AV → Prop) : Prop := (inR k r ∧ K (.lit (.int k r))) ∨ K (.lit (.int k (k.wrap r)))
theorem arK_ok {k : IntKind} {r : Int} {K : AV → Prop} (h : arK k r K) : K (.lit (.int k (k.wrap r))) := by
  rcases h with ⟨h1, h2⟩ | h
  · unfold inR at h1; rw [h1]; exact h2
  · exact h

def bitR (op : BinOp) (k : IntKind) (x y : Int) : Int :=
  match op with
  | .and => k.wrap (BitVec.ofInt k.bits x &&& BitVec.ofInt k.bits y).toNat
  | .or => k.wrap (BitVec.ofInt k.bits x ||| BitVec.ofInt k.bits y).toNat
  | .xor => k.wrap (BitVec.ofInt k.bits x ^^^ BitVec.ofInt k.bits y).toNat
  | _ => k.wrap (BitVec.ofInt k.bits x &&& ~~~BitVec.ofInt k.bits y).toNat

/-- Two integers. -/
def intK (op : BinOp) (k : IntKind) (a b : Int) (K : AV → Prop) : Prop :=
  match op with
  | .add => arK k (a + b) K
  | .sub => arK k (a - b) K
  | .mul => arK k (a * b) K
  | .quo => (0 ≤ a ∧ 0 < b ∧ arK k (a / b) K) ∨ (b ≠ 0 ∧ arK k (a.tdiv b) K)
  | .rem => (0 ≤ a ∧ 0 < b ∧ K (.lit (.int k (a % b)))) ∨ (b ≠ 0 ∧ K (.lit (.int k (a.tmod b))))
  | .and => K (.lit (.int k (bitR .and k a b)))
  | .or => K (.lit (.int k (bitR .or k a b)))
  | .xor => K (.lit (.int k (bitR .xor k a b)))
  | .andNot => K (.lit (.int k (bitR .andNot k a b)))
  | .eql => K (.lit (.bool (a == b)))
  | .neq => K (.lit (.bool (a != b)))
  | .lss => K (.lit (.bool (decide (a < b))))
  | .leq => K (.lit (.bool (decide (a ≤ b))))
  | .gtr => K (.lit (.bool (decide (b < a))))
  | .geq => K (.lit (.bool (decide (b ≤ a))))
  | .shl => 0 ≤ b ∧ K (.lit (.int k (k.wrap (a * 2 ^ (min b.toNat k.bits)))))
  | .shr => 0 ≤ b ∧ K (.lit (.int k (a.fdiv (2 ^ (min b.toNat k.bits)))))

theorem intK_ok {P : Program} {op : BinOp} {k k' : IntKind} {a b : Int} {K : AV → Prop} {t : TypeId} (h : intK op k a b K) (hk : k = k' ∨ op = .shl ∨ op = .shr) :
    ∃ v, K (.lit v) ∧ ∀ w, (binOp op t (.int k a) (.int k' b)).run P w = .ok v w := by
  cases op <;> simp only [intK] at h
  case add => obtain rfl := hk.resolve_right (by simp); exact ⟨_, arK_ok h, fun w => by simp [binOp, Op.intArith]⟩
  case sub => obtain rfl := hk.resolve_right (by simp); exact ⟨_, arK_ok h, fun w => by simp [binOp, Op.intArith]⟩
  case mul => obtain rfl := hk.resolve_right (by simp); exact ⟨_, arK_ok h, fun w => by simp [binOp, Op.intArith]⟩
  case quo =>
    obtain rfl := hk.resolve_right (by simp)
    rcases h with ⟨h1, h2, h3⟩ | ⟨h1, h3⟩
    · have hb : b ≠ 0 := by omega
      exact ⟨_, arK_ok h3, fun w => by simp [binOp, Op.intDiv, hb, Int.tdiv_eq_ediv_of_nonneg h1]⟩
    · exact ⟨_, arK_ok h3, fun w => by simp [binOp, Op.intDiv, h1]⟩
  case rem =>
    obtain rfl := hk.resolve_right (by simp)
    rcases h with ⟨h1, h2, h3⟩ | ⟨h1, h3⟩
    · have hb : b ≠ 0 := by omega
      exact ⟨_, h3, fun w => by simp [binOp, Op.intDiv, hb, Int.tmod_eq_emod_of_nonneg h1]⟩
    · exact ⟨_, h3, fun w => by simp [binOp, Op.intDiv, h1]⟩
  case shl =>
    have hn : ¬ b < 0 := by omega
    exact ⟨_, h.2, fun w => by simp [binOp, Op.shift, hn]⟩
  case shr =>
    have hn : ¬ b < 0 := by omega
    exact ⟨_, h.2, fun w => by simp [binOp, Op.shift, hn]⟩
  case and => obtain rfl := hk.resolve_right (by simp); exact ⟨_, h, fun w => by simp [binOp, Op.intBits, bitR]⟩
  case or => obtain rfl := hk.resolve_right (by simp); exact ⟨_, h, fun w => by simp [binOp, Op.intBits, bitR]⟩
  case xor => obtain rfl := hk.resolve_right (by simp); exact ⟨_, h, fun w => by simp [binOp, Op.intBits, bitR]⟩
  case andNot => obtain rfl := hk.resolve_right (by simp); exact ⟨_, h, fun w => by simp [binOp, Op.intBits, bitR]⟩
  all_goals (obtain rfl := hk.resolve_right (by simp); exact ⟨_, h, fun w => by simp [binOp, Op.intCmp]⟩)

end Eng
