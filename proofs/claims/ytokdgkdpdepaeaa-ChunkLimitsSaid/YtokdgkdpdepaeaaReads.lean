/- HOW THIS PROGRAM's TYPES READ. -/
import Derived.Test.YtokdgkdpdepaeaaBridge
import Derived.Test.YtokdgkdpdepaeaaCfg
namespace Go.Proofs.Ytokdgkdpdepaeaa
open Go Go.RowKit Eng

theorem P_own : ownKnob Try.prog.godebug = none := by kernel_rfl
theorem P_laid : laidOutB Try.prog = true := by kernel_rfl
theorem boolUn : Try.prog.underlying 4 = some .bool := by kernel_rfl
theorem u8Un : Try.prog.underlying 5 = some (.int .u8) := by kernel_rfl

def fitI (n : Int) : Prop := -9223372036854775808 ≤ n ∧ n ≤ 9223372036854775807
def fitB (n : Int) : Prop := 0 ≤ n ∧ n ≤ 255
theorem rd_int : Reads Try.prog 3 1 (fun n : Int => [.lit (.int .i64 n)]) fitI := reads_int intUn (by kernel_rfl)
theorem rd_item : Reads Try.prog 36 1 (fun n : Int => [.lit (.int .u8 n)]) fitB := reads_int itemUn (by kernel_rfl)
theorem rd_u8 : Reads Try.prog 5 1 (fun n : Int => [.lit (.int .u8 n)]) fitB := reads_int u8Un (by kernel_rfl)
theorem ag_int : ArgOf Try.prog 3 (fun n : Int => .lit (.int .i64 n)) fitI := arg_int intUn (by kernel_rfl)
theorem ag_u8 : ArgOf Try.prog 5 (fun n : Int => .lit (.int .u8 n)) fitB := arg_int u8Un (by kernel_rfl)

def fitSlot (s : Slot) : Prop := fitB s.item ∧ fitI s.n
theorem rd_slot : Reads Try.prog 48 2 (cells .slot) fitSlot :=
  reads_map (reads_structL slotUn (by kernel_rfl) (by kernel_rfl) (readsL_cons rd_item (readsL_cons rd_int (readsL_nil _ _)))) (fun p => (⟨p.1, p.2.1⟩ : Slot)) (fun _ => rfl) (fun _ => rfl) fun a h => ⟨h.1, h.2.1⟩
theorem ag_slot : ArgOf Try.prog 48 (fun s : Slot => .agg (cells .slot s)) fitSlot := arg_struct slotUn rd_slot
end Go.Proofs.Ytokdgkdpdepaeaa
