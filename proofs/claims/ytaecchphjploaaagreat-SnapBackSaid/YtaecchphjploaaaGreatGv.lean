/- How views read. -/
import Derived.Test.YtaecchphjploaaaGreatGe
import Derived.Test.YtaecchphjploaaaGreatGi
import Derived.Test.YtaecchphjploaaaGreatGl
set_option linter.unusedSimpArgs false
set_option linter.unusedVariables false
set_option maxRecDepth 100000
set_option maxHeartbeats 16000000
namespace Go.Proofs.YtaecchphjploaaaGreat
open Go Go.RowKit Eng
def fitSeen (s : Seen) : Prop:=fitI s.id ∧ fitI s.x ∧ fitI s.y
theorem seenUn : Tryz.prog.underlying 134 = some (.struct (Tryz.prog.fieldsOf 134)):=by kernel_rfl
theorem rd_seen : Reads Tryz.prog 134 3 (cells .seen) fitSeen:=
 reads_map (reads_structL seenUn (by kernel_rfl) (by kernel_rfl) (readsL_cons rd_int (readsL_cons rd_int (readsL_cons rd_int (readsL_nil _ _)))))
  (fun p=>(⟨p.1,p.2.1,p.2.2.1⟩ : Seen)) (fun _=>rfl) (fun _=>rfl) fun a h=>⟨h.1,h.2.1,h.2.2.1⟩
theorem rd_seens : Reads Tryz.prog 61 1 (fun l : List (El .seen)=>[.vec .seen l]) (fun l=>(∀ s ∈ l,fitSeen s) ∧ l.length * 24 ≤ 140737488351232):=reads_slice .seen (by kernel_rfl) (by kernel_rfl) (by kernel_rfl) rd_seen
structure FitView (v : Viw) : Prop where
 tick : fitI v.tick
 me : FitPlayer v.me
 chunks : ∀ c ∈ v.chunks,FitChunk c
 nc : v.chunks.length * 88 ≤ 140737488351232
 others : ∀ s ∈ v.others,fitSeen s
 no : v.others.length * 24 ≤ 140737488351232
theorem viewUn : Tryz.prog.underlying 63 = some (.struct (Tryz.prog.fieldsOf 63)):=by kernel_rfl
theorem rd_view : Reads Tryz.prog 63 10 (fun v : Viw=>viewC v) FitView:=
 reads_map (reads_structL viewUn (by kernel_rfl) (by kernel_rfl) (readsL_cons rd_int (readsL_cons rd_player (readsL_cons rd_chunks (readsL_cons rd_seens (readsL_nil _ _))))))
  (fun p=>(⟨p.1,p.2.1,p.2.2.1,p.2.2.2.1⟩ : Viw)) (fun _=>rfl) (fun _=>rfl) fun a h=>⟨h.1,h.2.1,h.2.2.1.1,h.2.2.1.2,h.2.2.2.1.1,h.2.2.2.1.2⟩
theorem ag_view : ArgOf Tryz.prog 63 (fun v : Viw=>.agg (viewC v)) FitView:=arg_struct viewUn rd_view
open Go Go.RowKit Eng
theorem FitView.okV {v : Viw} (h : FitView v) : OkV v:=⟨h.me.okP,fun c hc=>(h.chunks c hc).okC,h.nc,h.no⟩
open Go Go.RowKit Eng
theorem rd_bytesS : Reads Tryz.prog 35 1 (fun l : List (El .u8)=>[.vec .u8 l]) (fun l=>(∀ i ∈ l,fitB i) ∧ l.length * 1 ≤ 140737488351232):=reads_slice .u8 (by kernel_rfl) (by kernel_rfl) (by kernel_rfl) rd_u8
theorem ag_bytesS : ArgOf Tryz.prog 35 (fun l : List (El .u8)=>.vec .u8 l) (fun l=>(∀ i ∈ l,fitB i) ∧ l.length * 1 ≤ 140737488351232):=arg_slice (e:=5) (by kernel_rfl) rd_bytesS
end Go.Proofs.YtaecchphjploaaaGreat
