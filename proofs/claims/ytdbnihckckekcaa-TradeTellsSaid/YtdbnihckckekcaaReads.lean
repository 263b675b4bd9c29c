
/- HOW THIS PROGRAM's TYPES READ. -/
import Derived.Test.YtdbnihckckekcaaBridge
import Derived.Test.YtdbnihckckekcaaCfg
set_option linter.unusedSimpArgs false
set_option linter.unusedVariables false
namespace Go.Proofs.Ytdbnihckckekcaa
open Go Go.RowKit Eng

theorem P_own : ownKnob Try.prog.godebug = none := by kernel_rfl
theorem P_laid : laidOutB Try.prog = true := by kernel_rfl
theorem boolUn : Try.prog.underlying 4 = some .bool := by kernel_rfl
theorem u8Un : Try.prog.underlying 5 = some (.int .u8) := by kernel_rfl

def fitI (n : Int) : Prop := -9223372036854775808 ≤ n ∧ n ≤ 9223372036854775807
def fitB (n : Int) : Prop := 0 ≤ n ∧ n ≤ 255
theorem rd_int : Reads Try.prog 3 1 (fun n : Int => [.lit (.int .i64 n)]) fitI := reads_int intUn (by kernel_rfl)
theorem rd_item : Reads Try.prog 41 1 (fun n : Int => [.lit (.int .u8 n)]) fitB := reads_int itemUn (by kernel_rfl)
theorem rd_u8 : Reads Try.prog 5 1 (fun n : Int => [.lit (.int .u8 n)]) fitB := reads_int u8Un (by kernel_rfl)
theorem ag_int : ArgOf Try.prog 3 (fun n : Int => .lit (.int .i64 n)) fitI := arg_int intUn (by kernel_rfl)
theorem ag_u8 : ArgOf Try.prog 5 (fun n : Int => .lit (.int .u8 n)) fitB := arg_int u8Un (by kernel_rfl)

def fitSlot (s : Slot) : Prop := fitB s.item ∧ fitI s.n
theorem rd_slot : Reads Try.prog 51 2 (cells .slot) fitSlot :=
  reads_map (reads_structL slotUn (by kernel_rfl) (by kernel_rfl) (readsL_cons rd_item (readsL_cons rd_int (readsL_nil _ _)))) (fun p => (⟨p.1, p.2.1⟩ : Slot)) (fun _ => rfl) (fun _ => rfl) fun a h => ⟨h.1, h.2.1⟩
theorem ag_slot : ArgOf Try.prog 51 (fun s : Slot => .agg (cells .slot s)) fitSlot := arg_struct slotUn rd_slot
theorem rd_slots : Reads Try.prog 22 1 (fun l : List (El .slot) => [.vec .slot l]) (fun l => (∀ s ∈ l, fitSlot s) ∧ l.length * 16 ≤ 140737488351232) :=
  reads_slice .slot (by kernel_rfl) (by kernel_rfl) (by kernel_rfl) rd_slot
theorem ag_slots : ArgOf Try.prog 22 (fun l : List (El .slot) => .vec .slot l) (fun l => (∀ s ∈ l, fitSlot s) ∧ l.length * 16 ≤ 140737488351232) := arg_slice (e := 51) (by kernel_rfl) rd_slots
def fitHeap (h : Heap) : Prop := fitI h.cell ∧ fitSlot h.slot
theorem rd_heap : Reads Try.prog 117 3 (cells .heap) fitHeap :=
  reads_map (reads_structL (fs := Try.prog.fieldsOf 117) (by kernel_rfl) (by kernel_rfl) (by kernel_rfl) (readsL_cons rd_int (readsL_cons rd_slot (readsL_nil _ _)))) (fun p => (⟨p.1, p.2.1⟩ : Heap)) (fun _ => rfl) (fun _ => rfl) fun a h => ⟨h.1, h.2.1⟩
def fitBox (b : Box) : Prop := fitI b.cell ∧ (∀ s ∈ b.bag, fitSlot s) ∧ b.bag.length * 16 ≤ 140737488351232
theorem rd_box : Reads Try.prog 114 2 (cells .box) fitBox :=
  reads_map (reads_structL (fs := Try.prog.fieldsOf 114) (by kernel_rfl) (by kernel_rfl) (by kernel_rfl) (readsL_cons rd_int (readsL_cons rd_slots (readsL_nil _ _)))) (fun p => (⟨p.1, p.2.1⟩ : Box)) (fun _ => rfl) (fun _ => rfl) fun a h => ⟨h.1, h.2.1.1, h.2.1.2⟩
theorem rd_items : Reads Try.prog 91 1 (fun l : List (El .u8) => [.vec .u8 l]) (fun l => (∀ i ∈ l, fitB i) ∧ l.length * 1 ≤ 140737488351232) := reads_slice .u8 (by kernel_rfl) (by kernel_rfl) (by kernel_rfl) rd_item
theorem rd_heaps : Reads Try.prog 92 1 (fun l : List (El .heap) => [.vec .heap l]) (fun l => (∀ h ∈ l, fitHeap h) ∧ l.length * 24 ≤ 140737488351232) := reads_slice .heap (by kernel_rfl) (by kernel_rfl) (by kernel_rfl) rd_heap
theorem rd_boxes : Reads Try.prog 93 1 (fun l : List (El .box) => [.vec .box l]) (fun l => (∀ b ∈ l, fitBox b) ∧ l.length * 32 ≤ 140737488351232) := reads_slice .box (by kernel_rfl) (by kernel_rfl) (by kernel_rfl) rd_box
structure FitChunk (c : Chunk) : Prop where
  x : fitI c.x
  y : fitI c.y
  cells : ∀ i ∈ c.cells, fitB i
  nc : c.cells.length * 1 ≤ 140737488351232
  heaps : ∀ h ∈ c.heaps, fitHeap h
  nh : c.heaps.length * 24 ≤ 140737488351232
  boxes : ∀ b ∈ c.boxes, fitBox b
  nb : c.boxes.length * 32 ≤ 140737488351232
theorem chunkUn : Try.prog.underlying 95 = some (.struct (Try.prog.fieldsOf 95)) := by kernel_rfl
theorem rd_chunk : Reads Try.prog 95 5 (cells .chunk) FitChunk :=
  reads_map (reads_structL chunkUn (by kernel_rfl) (by kernel_rfl) (readsL_cons rd_int (readsL_cons rd_int (readsL_cons rd_items (readsL_cons rd_heaps (readsL_cons rd_boxes (readsL_nil _ _)))))))
    (fun p => (⟨p.1, p.2.1, p.2.2.1, p.2.2.2.1, p.2.2.2.2.1⟩ : Chunk)) (fun _ => rfl) (fun _ => rfl) fun a h => ⟨h.1, h.2.1, h.2.2.1.1, h.2.2.1.2, h.2.2.2.1.1, h.2.2.2.1.2, h.2.2.2.2.1.1, h.2.2.2.2.1.2⟩
theorem ag_chunk : ArgOf Try.prog 95 (fun c : Chunk => .agg (cells .chunk c)) FitChunk := arg_struct chunkUn rd_chunk
structure FitPlayer (p : Player) : Prop where
  id : fitI p.id
  x : fitI p.x
  y : fitI p.y
  bag : ∀ s ∈ p.bag, fitSlot s
  nb : p.bag.length * 16 ≤ 140737488351232
  wth : fitI p.wth
  offer : ∀ s ∈ p.offer, fitSlot s
  no : p.offer.length * 16 ≤ 140737488351232
theorem rd_bool : Reads Try.prog 4 1 (fun b : Bool => [.lit (.bool b)]) (fun _ => True) := reads_bool boolUn (by kernel_rfl)
theorem ag_bool : ArgOf Try.prog 4 (fun b : Bool => .lit (.bool b)) (fun _ => True) := arg_bool boolUn (by kernel_rfl)
theorem playerUn : Try.prog.underlying 24 = some (.struct (Try.prog.fieldsOf 24)) := by kernel_rfl
theorem rd_player : Reads Try.prog 24 7 (cells .player) FitPlayer :=
  reads_map (reads_structL playerUn (by kernel_rfl) (by kernel_rfl) (readsL_cons rd_int (readsL_cons rd_int (readsL_cons rd_int (readsL_cons rd_slots (readsL_cons rd_int (readsL_cons rd_slots (readsL_cons rd_bool (readsL_nil _ _)))))))))
    (fun p => (⟨p.1, p.2.1, p.2.2.1, p.2.2.2.1, p.2.2.2.2.1, p.2.2.2.2.2.1, p.2.2.2.2.2.2.1⟩ : Player)) (fun _ => rfl) (fun _ => rfl) fun a h => ⟨h.1, h.2.1, h.2.2.1, h.2.2.2.1.1, h.2.2.2.1.2, h.2.2.2.2.1, h.2.2.2.2.2.1.1, h.2.2.2.2.2.1.2⟩
theorem ag_player : ArgOf Try.prog 24 (fun c : Player => .agg (cells .player c)) FitPlayer := arg_struct playerUn rd_player
theorem stepUn : Try.prog.underlying 37 = some (.struct (Try.prog.fieldsOf 37)) := by kernel_rfl
theorem rd_step : Reads Try.prog 37 4 (cells .step) (fun _ => True) :=
  reads_map (reads_structL stepUn (by kernel_rfl) (by kernel_rfl) (readsL_cons rd_int (readsL_cons rd_bool (readsL_cons rd_int (readsL_cons rd_int (readsL_nil _ _))))))
    (fun p => (⟨p.1, p.2.1, p.2.2.1, p.2.2.2.1⟩ : Step)) (fun _ => rfl) (fun _ => rfl) fun a h => trivial
theorem rd_steps : Reads Try.prog 35 1 (fun l : List (El .step) => [.vec .step l]) (fun l => (∀ s ∈ l, True) ∧ l.length * 32 ≤ 140737488351232) :=
  reads_slice .step (by kernel_rfl) (by kernel_rfl) (by kernel_rfl) rd_step
theorem ag_steps : ArgOf Try.prog 35 (fun l : List (El .step) => .vec .step l) (fun l => (∀ s ∈ l, True) ∧ l.length * 32 ≤ 140737488351232) := arg_slice (e := 37) (by kernel_rfl) rd_steps
theorem ag_3int : ArgOf Try.prog 46 (fun p : Int × Int × Int × Unit => .agg [.lit (.int .i64 p.1), .lit (.int .i64 p.2.1), .lit (.int .i64 p.2.2.1)]) (fun p => fitI p.1 ∧ fitI p.2.1 ∧ fitI p.2.2.1 ∧ True) :=
  arg_array (m := 3) (e := 3) (by kernel_rfl) (reads_arrayL (n := 3) (e := 3) (by kernel_rfl) (by kernel_rfl) (by rw [show Try.prog.cellsOf 3 = 1 by kernel_rfl]; exact readsL_cons rd_int (readsL_cons rd_int (readsL_cons rd_int (readsL_nil _ _)))))
theorem ag_4int : ArgOf Try.prog 25 (fun p : Int × Int × Int × Int × Unit => .agg [.lit (.int .i64 p.1), .lit (.int .i64 p.2.1), .lit (.int .i64 p.2.2.1), .lit (.int .i64 p.2.2.2.1)]) (fun p => fitI p.1 ∧ fitI p.2.1 ∧ fitI p.2.2.1 ∧ fitI p.2.2.2.1 ∧ True) :=
  arg_array (m := 4) (e := 3) (by kernel_rfl) (reads_arrayL (n := 4) (e := 3) (by kernel_rfl) (by kernel_rfl) (by rw [show Try.prog.cellsOf 3 = 1 by kernel_rfl]; exact readsL_cons rd_int (readsL_cons rd_int (readsL_cons rd_int (readsL_cons rd_int (readsL_nil _ _))))))
theorem ag_2int : ArgOf Try.prog 44 (fun p : Int × Int => .agg [.lit (.int .i64 p.1), .lit (.int .i64 p.2)]) (fun p => fitI p.1 ∧ fitI p.2) := arg_array (m := 2) (e := 3) (by kernel_rfl) (reads_array2 (by kernel_rfl) (by kernel_rfl) rd_int)
end Go.Proofs.Ytdbnihckckekcaa
