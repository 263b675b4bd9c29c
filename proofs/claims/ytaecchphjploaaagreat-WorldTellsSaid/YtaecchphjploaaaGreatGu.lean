/- How cases read. -/
import Derived.Test.YtaecchphjploaaaGreatGe
set_option linter.unusedSimpArgs false
set_option linter.unusedVariables false
set_option maxRecDepth 100000
set_option maxHeartbeats 16000000
namespace Go.Proofs.YtaecchphjploaaaGreat
open Go Go.RowKit Eng
theorem rd_bytes : Reads Tryz.prog 35 1 (fun l : List (El .u8)=>[.vec .u8 l]) (fun l=>(∀ i ∈ l,fitB i) ∧ l.length * 1 ≤ 140737488351232):=reads_slice .u8 (by kernel_rfl) (by kernel_rfl) (by kernel_rfl) rd_u8
theorem caseUn : Tryz.prog.underlying 37 = some (.struct (Tryz.prog.fieldsOf 37)):=by kernel_rfl
theorem ag_case : ArgOf Tryz.prog 37 (fun p : Int × Int × Chunk × Player × List (El .u8) × Unit=>.agg ([.lit (.int .i64 p.1)] ++ ([.lit (.int .i64 p.2.1)] ++ (cells .chunk p.2.2.1 ++ (cells .player p.2.2.2.1 ++ ([.vec .u8 p.2.2.2.2.1] ++ [])))))) (fun p=>fitI p.1 ∧ fitI p.2.1 ∧ FitChunk p.2.2.1 ∧ FitPlayer p.2.2.2.1 ∧ ((∀ i ∈ p.2.2.2.2.1,fitB i) ∧ p.2.2.2.2.1.length * 1 ≤ 140737488351232) ∧ True):=
 arg_struct caseUn (reads_structL caseUn (by kernel_rfl) (by kernel_rfl) (readsL_cons rd_int (readsL_cons rd_int (readsL_cons rd_chunk (readsL_cons rd_player (readsL_cons rd_bytes (readsL_nil _ _)))))))
end Go.Proofs.YtaecchphjploaaaGreat
