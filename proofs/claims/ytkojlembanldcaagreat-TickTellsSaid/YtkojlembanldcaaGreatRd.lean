/- How commands read. -/
import Derived.Test.YtkojlembanldcaaGreatGd
set_option linter.unusedSimpArgs false
set_option linter.unusedVariables false
set_option maxRecDepth 100000
set_option maxHeartbeats 16000000
namespace Go.Proofs.YtkojlembanldcaaGreat
open Go Go.RowKit Eng
theorem rd_do8 : Reads Tryz.prog 38 1 (fun n : Int=>[.lit (.int .u8 n)]) fitB:=reads_int (by kernel_rfl) (by kernel_rfl)
def fitCmd (c : Cmd) : Prop:=fitB c.dol ∧ fitI c.a ∧ fitI c.b ∧ fitI c.c ∧ fitI c.n
theorem cmdUn : Tryz.prog.underlying 40 = some (.struct (Tryz.prog.fieldsOf 40)):=by kernel_rfl
theorem rd_cmd : Reads Tryz.prog 40 5 (cells .cmd) fitCmd:=
 reads_map (reads_structL cmdUn (by kernel_rfl) (by kernel_rfl) (readsL_cons rd_do8 (readsL_cons rd_int (readsL_cons rd_int (readsL_cons rd_int (readsL_cons rd_int (readsL_nil _ _)))))))
  (fun p=>(⟨p.1,p.2.1,p.2.2.1,p.2.2.2.1,p.2.2.2.2.1⟩ : Cmd)) (fun _=>rfl) (fun _=>rfl) fun a h=>⟨h.1,h.2.1,h.2.2.1,h.2.2.2.1,h.2.2.2.2.1⟩
def fitDoo (o : Doo) : Prop:=fitI o.id ∧ fitCmd o.cmd
theorem dooUn : Tryz.prog.underlying 42 = some (.struct (Tryz.prog.fieldsOf 42)):=by kernel_rfl
theorem rd_doo : Reads Tryz.prog 42 6 (cells .doo) fitDoo:=
 reads_map (reads_structL dooUn (by kernel_rfl) (by kernel_rfl) (readsL_cons rd_int (readsL_cons rd_cmd (readsL_nil _ _)))) (fun p=>(⟨p.1,p.2.1⟩ : Doo)) (fun _=>rfl) (fun _=>rfl) fun a h=>⟨h.1,h.2.1⟩
theorem rd_doos : Reads Tryz.prog 75 1 (fun l : List (El .doo)=>[.vec .doo l]) (fun l=>(∀ s ∈ l,fitDoo s) ∧ l.length * 48 ≤ 140737488351232):=
 reads_slice .doo (by kernel_rfl) (by kernel_rfl) (by kernel_rfl) rd_doo
theorem ag_doos : ArgOf Tryz.prog 75 (fun l : List (El .doo)=>.vec .doo l) (fun l=>(∀ s ∈ l,fitDoo s) ∧ l.length * 48 ≤ 140737488351232):=arg_slice (e:=42) (by kernel_rfl) rd_doos
def fitOrder (o : Order) : Prop:=fitI o.player ∧ fitI o.seq ∧ fitCmd o.cmd
theorem orderUn : Tryz.prog.underlying 90 = some (.struct (Tryz.prog.fieldsOf 90)):=by kernel_rfl
theorem rd_order : Reads Tryz.prog 90 7 (cells .order) fitOrder:=
 reads_map (reads_structL orderUn (by kernel_rfl) (by kernel_rfl) (readsL_cons rd_int (readsL_cons rd_int (readsL_cons rd_cmd (readsL_nil _ _))))) (fun p=>(⟨p.1,p.2.1,p.2.2.1⟩ : Order)) (fun _=>rfl) (fun _=>rfl) fun a h=>⟨h.1,h.2.1,h.2.2.1⟩
theorem rd_orders : Reads Tryz.prog 79 1 (fun l : List (El .order)=>[.vec .order l]) (fun l=>(∀ s ∈ l,fitOrder s) ∧ l.length * 56 ≤ 140737488351232):=
 reads_slice .order (by kernel_rfl) (by kernel_rfl) (by kernel_rfl) rd_order
theorem ag_orders : ArgOf Tryz.prog 79 (fun l : List (El .order)=>.vec .order l) (fun l=>(∀ s ∈ l,fitOrder s) ∧ l.length * 56 ≤ 140737488351232):=arg_slice (e:=90) (by kernel_rfl) rd_orders
theorem fitDoo.ok {o : Doo} (h : fitDoo o) : o.id ≤ 9223372036854775807 ∧ 0 ≤ o.cmd.dol ∧ o.cmd.dol ≤ 255:=⟨h.1.2,h.2.1.1,h.2.1.2⟩
end Go.Proofs.YtkojlembanldcaaGreat
