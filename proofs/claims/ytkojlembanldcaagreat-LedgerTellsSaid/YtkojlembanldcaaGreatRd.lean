/- How commands read. -/
import Derived.Test.YtkojlembanldcaaGreatGd
set_option linter.unusedSimpArgs false
set_option linter.unusedVariables false
set_option maxRecDepth 100000
set_option maxHeartbeats 16000000
namespace Go.Proofs.YtkojlembanldcaaGreat
open Go Go.RowKit Eng
theorem Kf : cq Tryz.prog 38 1 (fun n : Int=>[.lit (.int .u8 n)]) u_:=mE (by kernel_rfl) (by kernel_rfl)
def yC (c : Cmd) : Prop:=u_ c.dol ∧ gr c.a ∧ gr c.b ∧ gr c.c ∧ gr c.n
theorem Lb : Tryz.prog.underlying 40 = some (.struct (Tryz.prog.fieldsOf 40)):=by kernel_rfl
theorem Kg : cq Tryz.prog 40 5 (cells .cmd) yC:=
 f8 (dW Lb (by kernel_rfl) (by kernel_rfl) (aP Kf (aP el (aP el (aP el (aP el (fq _ _)))))))
  (fun p=>(⟨p.1,p.2.1,p.2.2.1,p.2.2.2.1,p.2.2.2.2.1⟩ : Cmd)) (fun _=>rfl) (fun _=>rfl) fun a h=>⟨h.1,h.2.1,h.2.2.1,h.2.2.2.1,h.2.2.2.2.1⟩
def EU (o : Doo) : Prop:=gr o.id ∧ yC o.cmd
def od (o : ay) : Prop:=gr o.player ∧ gr o.seq ∧ yC o.cmd
theorem I3 : Tryz.prog.underlying 90 = some (.struct (Tryz.prog.fieldsOf 90)):=by kernel_rfl
theorem G6 : cq Tryz.prog 90 7 (cells .order) od:=
 f8 (dW I3 (by kernel_rfl) (by kernel_rfl) (aP el (aP el (aP Kg (fq _ _))))) (fun p=>(⟨p.1,p.2.1,p.2.2.1⟩ : ay)) (fun _=>rfl) (fun _=>rfl) fun a h=>⟨h.1,h.2.1,h.2.2.1⟩
theorem EV : cq Tryz.prog 79 1 (fun l : List (El .order)=>[.vec .order l]) (fun l=>(∀ s ∈ l,od s) ∧ l.length * 56 ≤ 140737488351232):=
 eQ .order (by kernel_rfl) (by kernel_rfl) (by kernel_rfl) G6
theorem C6 : cq Tryz.prog 27 1 (fun l : List (El .orders)=>[.vec .orders l]) (fun l=>(∀ s ∈ l,(∀ o ∈ s,od o) ∧ s.length * 56 ≤ 140737488351232) ∧ l.length * 24 ≤ 140737488351232):=
 eQ .orders (by kernel_rfl) (by kernel_rfl) (by kernel_rfl) EV
theorem C7 : nS Tryz.prog 27 (fun l : List (El .orders)=>.vec .orders l) (fun l=>(∀ s ∈ l,(∀ o ∈ s,od o) ∧ s.length * 56 ≤ 140737488351232) ∧ l.length * 24 ≤ 140737488351232):=Es (e:=79) (by kernel_rfl) C6
theorem EU.ok {o : Doo} (h : EU o) : o.id ≤ 9223372036854775807 ∧ 0 ≤ o.cmd.dol ∧ o.cmd.dol ≤ 255:=⟨h.1.2,h.2.1.1,h.2.1.2⟩
end Go.Proofs.YtkojlembanldcaaGreat
