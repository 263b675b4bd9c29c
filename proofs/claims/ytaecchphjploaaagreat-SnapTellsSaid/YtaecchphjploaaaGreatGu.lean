/- How views read. -/
import Derived.Test.YtaecchphjploaaaGreatGe
import Derived.Test.YtaecchphjploaaaGreatGi
import Derived.Test.YtaecchphjploaaaGreatGl
set_option linter.unusedSimpArgs false
set_option linter.unusedVariables false
set_option maxRecDepth 100000
set_option maxHeartbeats 16000000
namespace Go.Proofs.YtaecchphjploaaaGreat
open Go Go.RowKit Eng
def sk (s : eH) : Prop:=iB s.id ∧ iB s.x ∧ iB s.y
theorem FI : Tryz.prog.underlying 134 = some (.struct (Tryz.prog.fieldsOf 134)):=by kernel_rfl
theorem EY : bZ Tryz.prog 134 3 (cells .seen) sk:=
 fF (dt FI (by kernel_rfl) (by kernel_rfl) (aZ el (aZ el (aZ el (eC _ _)))))
  (fun p=>(⟨p.1,p.2.1,p.2.2.1⟩ : eH)) (fun _=>rfl) (fun _=>rfl) fun a h=>⟨h.1,h.2.1,h.2.2.1⟩
theorem Dn : bZ Tryz.prog 61 1 (fun l : List (El .seen)=>[.vec .seen l]) (fun l=>(∀ s ∈ l,sk s) ∧ l.length * 24 ≤ 140737488351232):=fd .seen (by kernel_rfl) (by kernel_rfl) (by kernel_rfl) EY
structure o7 (v : Viw) : Prop where
 tick : iB v.tick
 me : lr v.me
 chunks : ∀ c ∈ v.chunks,ku c
 nc : v.chunks.length * 88 ≤ 140737488351232
 others : ∀ s ∈ v.others,sk s
 no : v.others.length * 24 ≤ 140737488351232
theorem Bk : Tryz.prog.underlying 63 = some (.struct (Tryz.prog.fieldsOf 63)):=by kernel_rfl
theorem EZ : bZ Tryz.prog 63 10 (fun v : Viw=>bA v) o7:=
 fF (dt Bk (by kernel_rfl) (by kernel_rfl) (aZ el (aZ BH (aZ Bw (aZ Dn (eC _ _))))))
  (fun p=>(⟨p.1,p.2.1,p.2.2.1,p.2.2.2.1⟩ : Viw)) (fun _=>rfl) (fun _=>rfl) fun a h=>⟨h.1,h.2.1,h.2.2.1.1,h.2.2.1.2,h.2.2.2.1.1,h.2.2.2.1.2⟩
theorem x9 : mB Tryz.prog 63 (fun v : Viw=>.agg (bA v)) o7:=yJ Bk EZ
open Go Go.RowKit Eng
theorem o7.okV {v : Viw} (h : o7 v) : OkV v:=⟨h.me.okP,fun c hc=>(h.chunks c hc).okC,h.nc,h.no⟩
open Go Go.RowKit Eng
theorem Bl : mB Tryz.prog 35 (fun l : List (El .u8)=>.vec .u8 l) (fun l=>(∀ i ∈ l,ss i) ∧ l.length * 1 ≤ 140737488351232):=AL (e:=5) (by kernel_rfl) (fd .u8 (by kernel_rfl) (by kernel_rfl) (by kernel_rfl) Gk)
end Go.Proofs.YtaecchphjploaaaGreat
