/- How cases read. -/
import Derived.Test.YtaecchphjploaaaGe
set_option linter.unusedSimpArgs false
set_option linter.unusedVariables false
set_option maxRecDepth 100000
set_option maxHeartbeats 16000000
namespace Go.Proofs.Ytaecchphjploaaa
open Go Go.RowKit Eng
theorem rd_bytes11 : Reads Try.prog 31 1 (fun l : List (El .u8)=>[.vec .u8 l]) (fun l=>(∀ i ∈ l,fitB i) ∧ l.length * 1 ≤ 140737488351232):=reads_slice .u8 (by kernel_rfl) (by kernel_rfl) (by kernel_rfl) rd_u8
theorem case11Un : Try.prog.underlying 33 = some (.struct (Try.prog.fieldsOf 33)):=by kernel_rfl
theorem ag_case11 : ArgOf Try.prog 33 (fun p : Int × Int × Slot × List (El .slot) × List (El .u8) × Unit=>.agg ([.lit (.int .i64 p.1)] ++ ([.lit (.int .u8 p.2.1)] ++ (cells .slot p.2.2.1 ++ ([.vec .slot p.2.2.2.1] ++ ([.vec .u8 p.2.2.2.2.1] ++ [])))))) (fun p=>fitI p.1 ∧ fitB p.2.1 ∧ fitSlot p.2.2.1 ∧ ((∀ s ∈ p.2.2.2.1,fitSlot s) ∧ p.2.2.2.1.length * 16 ≤ 140737488351232) ∧ ((∀ i ∈ p.2.2.2.2.1,fitB i) ∧ p.2.2.2.2.1.length * 1 ≤ 140737488351232) ∧ True):=
 arg_struct case11Un (reads_structL case11Un (by kernel_rfl) (by kernel_rfl) (readsL_cons rd_int (readsL_cons rd_u8 (readsL_cons rd_slot (readsL_cons rd_slots (readsL_cons rd_bytes11 (readsL_nil _ _)))))))
end Go.Proofs.Ytaecchphjploaaa
