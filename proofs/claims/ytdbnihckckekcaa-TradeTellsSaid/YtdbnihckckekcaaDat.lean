/- THE DATA OF THE ENGINE: the program's data as plain Lean types; abstract values over them; no dump is named here. -/
import Derived.WalkKit
set_option linter.unusedSimpArgs false
set_option linter.unusedVariables false
namespace Eng
open Go

structure Slot where
  item : Int
  n : Int
structure Heap where
  cell : Int
  slot : Slot
structure Box where
  cell : Int
  bag : List Slot
structure Chunk where
  x : Int
  y : Int
  cells : List Int
  heaps : List Heap
  boxes : List Box
structure Player where
  id : Int
  x : Int
  y : Int
  bag : List Slot
  wth : Int
  offer : List Slot
  agrees : Bool
structure Seen where
  id : Int
  x : Int
  y : Int
structure Cmd where
  dol : Int
  a : Int
  b : Int
  c : Int
  n : Int
structure Order where
  player : Int
  seq : Int
  cmd : Cmd
structure Reply where
  player : Int
  seq : Int
  err : Int
structure Step where
  dol : Int
  other : Bool
  pos : Int
  n : Int
structure Recipe where
  of : List Slot
  makes : Slot

/-- The element types of slices. -/
inductive Ty where
  | u8 | i64 | slot | heap | box | chunk | player | seen | cmd | order | reply | step | recipe | ints | orders

@[reducible] def El : Ty → Type
  | .u8 => Int
  | .i64 => Int
  | .slot => Slot
  | .heap => Heap
  | .box => Box
  | .chunk => Chunk
  | .player => Player
  | .seen => Seen
  | .cmd => Cmd
  | .order => Order
  | .reply => Reply
  | .step => Step
  | .recipe => Recipe
  | .ints => List Int
  | .orders => List Order

/-- Abstract values. 'top': anything. 'emp': a slice of no elements and no room, nil or not. 'bl p q': a bool: if it is true p, if not q. 'own .. (some c)': its capacity is c. 'vec': a slice that nobody writes. 'own': a slice over an own row. 'ptr': into an own box. 'rptr': a cell of an element of an own row; 'vptr': of a slice that nobody writes. -/
inductive AV where
  | top
  | tt
  | ff
  | bl (p q : Prop)
  | emp (t : Ty)
  | lit (v : Value)
  | agg (cs : List AV)
  | tup (vs : List AV)
  | vec (t : Ty) (l : List (El t))
  | own (t : Ty) (k : Nat) (off len : Nat) (c : Option Nat)
  | ptr (k : Nat) (off : Nat)
  | rptr (t : Ty) (k : Nat) (i : Nat) (off : Nat)
  | vptr (t : Ty) (l : List (El t)) (i : Nat) (off : Nat)
  | clo (fn : Fn) (first cap : List AV)

def i64 (n : Int) : AV := .lit (.int .i64 n)
def u8 (n : Int) : AV := .lit (.int .u8 n)
def bol (b : Bool) : AV := .lit (.bool b)
def und : AV := .lit (.tuple #[])

@[reducible] def slotC (s : Slot) : List AV := [.lit (.int .u8 s.item), .lit (.int .i64 s.n)]

/-- The cells of an element. -/
def cells : (t : Ty) → El t → List AV
  | .u8, n => [.lit (.int .u8 n)]
  | .i64, n => [.lit (.int .i64 n)]
  | .slot, s => [.lit (.int .u8 s.item), .lit (.int .i64 s.n)]
  | .heap, h => [.lit (.int .i64 h.cell), .lit (.int .u8 h.slot.item), .lit (.int .i64 h.slot.n)]
  | .box, b => [.lit (.int .i64 b.cell), .vec .slot b.bag]
  | .chunk, c => [.lit (.int .i64 c.x), .lit (.int .i64 c.y), .vec .u8 c.cells, .vec .heap c.heaps, .vec .box c.boxes]
  | .player, p => [.lit (.int .i64 p.id), .lit (.int .i64 p.x), .lit (.int .i64 p.y), .vec .slot p.bag, .lit (.int .i64 p.wth), .vec .slot p.offer, .lit (.bool p.agrees)]
  | .seen, s => [.lit (.int .i64 s.id), .lit (.int .i64 s.x), .lit (.int .i64 s.y)]
  | .cmd, c => [.lit (.int .u8 c.dol), .lit (.int .i64 c.a), .lit (.int .i64 c.b), .lit (.int .i64 c.c), .lit (.int .i64 c.n)]
  | .order, o => [.lit (.int .i64 o.player), .lit (.int .i64 o.seq), .lit (.int .u8 o.cmd.dol), .lit (.int .i64 o.cmd.a), .lit (.int .i64 o.cmd.b), .lit (.int .i64 o.cmd.c), .lit (.int .i64 o.cmd.n)]
  | .reply, r => [.lit (.int .i64 r.player), .lit (.int .i64 r.seq), .lit (.int .i64 r.err)]
  | .step, s => [.lit (.int .i64 s.dol), .lit (.bool s.other), .lit (.int .i64 s.pos), .lit (.int .i64 s.n)]
  | .recipe, r => [.vec .slot r.of, .lit (.int .u8 r.makes.item), .lit (.int .i64 r.makes.n)]
  | .ints, l => [.vec .i64 l]
  | .orders, l => [.vec .order l]

/-- How many cells an element has. -/
def csz : Ty → Nat
  | .u8 => 1
  | .i64 => 1
  | .slot => 2
  | .heap => 3
  | .box => 2
  | .chunk => 5
  | .player => 7
  | .seen => 3
  | .cmd => 5
  | .order => 7
  | .reply => 3
  | .step => 4
  | .recipe => 3
  | .ints => 1
  | .orders => 1

/-- How many bytes an element has. -/
def bsz : Ty → Nat
  | .u8 => 1
  | .i64 => 8
  | .slot => 16
  | .heap => 24
  | .box => 32
  | .chunk => 88
  | .player => 88
  | .seen => 24
  | .cmd => 40
  | .order => 56
  | .reply => 24
  | .step => 32
  | .recipe => 40
  | .ints => 24
  | .orders => 24

theorem cells_length (t : Ty) (e : El t) : (cells t e).length = csz t := by cases t <;> rfl
theorem csz_pos (t : Ty) : 0 < csz t := by cases t <;> decide

/-- The cells of a list, one behind the other. -/
def flat (t : Ty) (l : List (El t)) : List AV := l.flatMap (cells t)

theorem flat_length (t : Ty) (l : List (El t)) : (flat t l).length = l.length * csz t := by
  unfold flat
  induction l with
  | nil => simp
  | cons a l ih => rw [List.flatMap_cons, List.length_append, cells_length, ih, List.length_cons, Nat.succ_mul]; omega

theorem flat_get (t : Ty) (l : List (El t)) (i : Nat) (e : El t) (h : l[i]? = some e) (j : Nat) (hj : j < csz t) :
    (flat t l)[i * csz t + j]? = (cells t e)[j]? := by
  induction l generalizing i with
  | nil => simp at h
  | cons a l ih =>
    cases i with
    | zero =>
      simp at h; subst h
      simp [flat, List.flatMap_cons]
      rw [List.getElem?_append_left (by rw [cells_length]; exact hj)]
    | succ i =>
      simp at h
      have := ih i h
      simp only [flat, List.flatMap_cons]
      rw [List.getElem?_append_right (by rw [cells_length, Nat.succ_mul]; omega), cells_length]
      have e1 : (i + 1) * csz t + j - csz t = i * csz t + j := by rw [Nat.succ_mul]; omega
      rw [e1]; exact this

/-- A default element. -/
def dflt : (t : Ty) → El t
  | .u8 => (0 : Int)
  | .i64 => (0 : Int)
  | .slot => (⟨0, 0⟩ : Slot)
  | .heap => (⟨0, ⟨0, 0⟩⟩ : Heap)
  | .box => (⟨0, []⟩ : Box)
  | .chunk => (⟨0, 0, [], [], []⟩ : Chunk)
  | .player => (⟨0, 0, 0, [], 0, [], false⟩ : Player)
  | .seen => (⟨0, 0, 0⟩ : Seen)
  | .cmd => (⟨0, 0, 0, 0, 0⟩ : Cmd)
  | .order => (⟨0, 0, ⟨0, 0, 0, 0, 0⟩⟩ : Order)
  | .reply => (⟨0, 0, 0⟩ : Reply)
  | .step => (⟨0, false, 0, 0⟩ : Step)
  | .recipe => (⟨[], ⟨0, 0⟩⟩ : Recipe)
  | .ints => ([] : List Int)
  | .orders => ([] : List Order)

instance (t : Ty) : Inhabited (El t) := ⟨dflt t⟩

/-- A slice value as a list: nil and empty slices are the empty list. -/
def toSlots : AV → Option (List Slot)
  | .vec .slot l => some l
  | .lit (.slice none 0 _) => some []
  | .emp _ => some []
  | _ => none
def toU8s : AV → Option (List Int)
  | .vec .u8 l => some l
  | .lit (.slice none 0 _) => some []
  | .emp _ => some []
  | _ => none
def toI64s : AV → Option (List Int)
  | .vec .i64 l => some l
  | .lit (.slice none 0 _) => some []
  | .emp _ => some []
  | _ => none
def toHeaps : AV → Option (List Heap)
  | .vec .heap l => some l
  | .lit (.slice none 0 _) => some []
  | .emp _ => some []
  | _ => none
def toBoxes : AV → Option (List Box)
  | .vec .box l => some l
  | .lit (.slice none 0 _) => some []
  | .emp _ => some []
  | _ => none
def toOrders : AV → Option (List Order)
  | .vec .order l => some l
  | .lit (.slice none 0 _) => some []
  | .emp _ => some []
  | _ => none

/-- An element of its cells. -/
def ofCells : (t : Ty) → List AV → Option (El t)
  | .u8, [.lit (.int .u8 n)] => some n
  | .i64, [.lit (.int .i64 n)] => some n
  | .slot, [.lit (.int .u8 i), .lit (.int .i64 n)] => some (⟨i, n⟩ : Slot)
  | .heap, [.lit (.int .i64 c), .lit (.int .u8 i), .lit (.int .i64 n)] => some (⟨c, ⟨i, n⟩⟩ : Heap)
  | .box, [.lit (.int .i64 c), l] => (toSlots l).map fun l => (⟨c, l⟩ : Box)
  | .chunk, [.lit (.int .i64 x), .lit (.int .i64 y), c, h, b] =>
    match toU8s c, toHeaps h, toBoxes b with
    | some c, some h, some b => some (⟨x, y, c, h, b⟩ : Chunk)
    | _, _, _ => none
  | .player, [.lit (.int .i64 i), .lit (.int .i64 x), .lit (.int .i64 y), b, .lit (.int .i64 w), o, .lit (.bool g)] =>
    match toSlots b, toSlots o with
    | some b, some o => some (⟨i, x, y, b, w, o, g⟩ : Player)
    | _, _ => none
  | .seen, [.lit (.int .i64 i), .lit (.int .i64 x), .lit (.int .i64 y)] => some (⟨i, x, y⟩ : Seen)
  | .cmd, [.lit (.int .u8 d), .lit (.int .i64 a), .lit (.int .i64 b), .lit (.int .i64 c), .lit (.int .i64 n)] => some (⟨d, a, b, c, n⟩ : Cmd)
  | .order, [.lit (.int .i64 p), .lit (.int .i64 s), .lit (.int .u8 d), .lit (.int .i64 a), .lit (.int .i64 b), .lit (.int .i64 c), .lit (.int .i64 n)] => some (⟨p, s, ⟨d, a, b, c, n⟩⟩ : Order)
  | .reply, [.lit (.int .i64 p), .lit (.int .i64 s), .lit (.int .i64 e)] => some (⟨p, s, e⟩ : Reply)
  | .step, [.lit (.int .i64 d), .lit (.bool o), .lit (.int .i64 p), .lit (.int .i64 n)] => some (⟨d, o, p, n⟩ : Step)
  | .recipe, [l, .lit (.int .u8 i), .lit (.int .i64 n)] => (toSlots l).map fun l => (⟨l, ⟨i, n⟩⟩ : Recipe)
  | .ints, [l] => toI64s l
  | .orders, [l] => toOrders l
  | _, _ => none

/-- Blocks that the code at work owns: a variable's cells; the row behind a slice. -/
inductive Blk where
  | box (cs : List AV)
  | row (t : Ty) (l : List (El t))

/-- Own memory: blocks by number. -/
abbrev Mem := List (Nat × Blk)
def mget : Mem → Nat → Option Blk
  | [], _ => none
  | (i, b) :: r, k => match Nat.beq i k with | true => some b | false => mget r k
def mset : Mem → Nat → Blk → Mem
  | [], k, b => [(k, b)]
  | (i, c) :: r, k, b => match Nat.beq i k with | true => (k, b) :: r | false => (i, c) :: mset r k b
def mdel : Mem → Nat → Mem
  | [], _ => []
  | (i, c) :: r, k => match Nat.beq i k with | true => mdel r k | false => (i, c) :: mdel r k

theorem nbt {a b : Nat} : Nat.beq a b = true ↔ a = b := ⟨Nat.eq_of_beq_eq_true, fun h => h ▸ Nat.beq_refl a⟩
theorem nbf {a b : Nat} : Nat.beq a b = false ↔ a ≠ b :=
  ⟨Nat.ne_of_beq_eq_false, fun h => by cases hb : Nat.beq a b with | true => exact absurd (nbt.1 hb) h | false => rfl⟩

theorem mget_mset (m : Mem) (k : Nat) (b : Blk) (j : Nat) : mget (mset m k b) j = if k = j then some b else mget m j := by
  induction m with
  | nil =>
    simp only [mset, mget]
    by_cases h : k = j
    · simp [nbt.2 h, h]
    · simp [nbf.2 h, h]
  | cons p r ih =>
    obtain ⟨i, c⟩ := p
    simp only [mset]
    cases hi : Nat.beq i k with
    | true =>
      have hik := nbt.1 hi
      subst hik
      simp only [mget]
      by_cases h : i = j
      · simp [nbt.2 h, h]
      · simp [nbf.2 h, h]
    | false =>
      have hik := nbf.1 hi
      simp only [mget, ih]
      by_cases h : i = j
      · have : ¬ k = j := fun e => hik (h.trans e.symm)
        simp [nbt.2 h, this]
      · simp [nbf.2 h]

theorem mget_mdel (m : Mem) (k : Nat) (j : Nat) : mget (mdel m k) j = if k = j then none else mget m j := by
  induction m with
  | nil => simp [mdel, mget]
  | cons p r ih =>
    obtain ⟨i, c⟩ := p
    simp only [mdel]
    cases hi : Nat.beq i k with
    | true =>
      have hik := nbt.1 hi
      subst hik
      simp only [ih, mget]
      by_cases h : i = j
      · simp [h]
      · simp [nbf.2 h, h]
    | false =>
      have hik := nbf.1 hi
      simp only [mget, ih]
      by_cases h : i = j
      · have : ¬ k = j := fun e => hik (h.trans e.symm)
        simp [nbt.2 h, this]
      · simp [nbf.2 h]

end Eng
