/- view.Right, view.Same. -/
import Derived.Test.YtaecchphjploaaaGreatGi
import Derived.Test.YtaecchphjploaaaGreatGk
import Derived.Test.YtaecchphjploaaaGreatGg
set_option linter.unusedSimpArgs false
set_option linter.unusedVariables false
set_option maxRecDepth 100000
set_option maxHeartbeats 16000000
namespace Go.Proofs.YtaecchphjploaaaGreat
open Go Go.RowKit Eng
structure OkV (v : Viw) : Prop where
 me : OkP v.me
 chunks : ∀ c ∈ v.chunks,OkC c
 nc : v.chunks.length * 88 ≤ 140737488351232
 no : v.others.length * 24 ≤ 140737488351232
open Go Go.RowKit Eng
theorem eqv_len {α : Type} {a b : List α} (h : ¬ a.length = b.length) : eqv a b = false:=eqv_false.2 fun e=>h (congrArg List.length e)
theorem eqv_take {tt : Ty} {a b : List (El tt)} {k : Nat} (h : ¬ elt tt a k = elt tt b k) : eqv a b = false:=eqv_false.2 fun e=>h (by rw [e])
theorem eqv_all {tt : Ty} {a b : List (El tt)} (hl : a.length = b.length) (h : ∀ i < a.length,elt tt a i = elt tt b i) : eqv a b = true:=eqv_iff.2 (elt_ext hl h)
theorem slot_ext {a b : Slot} (h1 : a.item = b.item) (h2 : a.n = b.n) : a = b:=by cases a;cases b;simp_all
theorem seen_ext {a b : Seen} (h1 : a.id = b.id) (h2 : a.x = b.x) (h3 : a.y = b.y) : a = b:=by cases a;cases b;simp_all
theorem eqSlots_api (a b : List (El .slot)) (ha : a.length ≤ 9000000000000000000) : Api Tryz.prog 114 [.vec .slot a,.vec .slot b] (bol (eqv a b)):=by
 by_cases hl : a.length = b.length
 · skip
   refine Api.of_fin cfg_ok Tryz.func114 rfl (nt:=24) rfl rfl ?_
   conv=>whnf
   repeat' (first|exact trivial|((first|refine kL ?_|(refine ⟨fun hb=>?_,fun hb=>?_⟩<;>(try simp only [nrm] at hb)<;>(try (first|(exfalso;omega)|contradiction|exact kB hb)))|refine kW cfg_ok ?_|refine kC ?_|refine bdA ?_|refine bd2 ?_|refine bdR ?_|refine bdL ?_)<;>(conv=>whnf))|(refine And.intro ?_ ?_;rotate_left;(conv=>whnf);rotate_right))
   all_goals try omega
   refine Runs.loopS cfg_ok (σ:=Nat) [0,1,12,13] (fun k=>[.vec .slot a,.vec .slot b,i64 a.length,i64 k]) (fun _=>[]) (fun k=>k ≤ a.length ∧ ∀ i < k,elt .slot a i = elt .slot b i) (fun k=>a.length - k) 0 ⟨by omega,by omega⟩ ?_ ?_
   · conv=>whnf
     repeat' (first|exact trivial|((first|refine kL ?_|(refine ⟨fun hb=>?_,fun hb=>?_⟩<;>(try simp only [nrm] at hb)<;>(try (first|(exfalso;omega)|contradiction|exact kB hb)))|refine kW cfg_ok ?_|refine kC ?_|refine bdA ?_|refine bd2 ?_|refine bdR ?_|refine bdL ?_)<;>(conv=>whnf))|(refine And.intro ?_ ?_;rotate_left;(conv=>whnf);rotate_right))
   · rintro k ⟨hk,ht⟩
     by_cases hlt : k < a.length
     · conv=>whnf
       repeat' (first|exact trivial|((first|refine kL ?_|(refine ⟨fun hb=>?_,fun hb=>?_⟩<;>(try simp only [nrm] at hb)<;>(try (first|(exfalso;omega)|contradiction|exact kB hb)))|refine kW cfg_ok ?_|refine kC ?_|refine bdA ?_|refine bd2 ?_|refine bdR ?_|refine bdL ?_)<;>(conv=>whnf))|(refine And.intro ?_ ?_;rotate_left;(conv=>whnf);rotate_right))
       · exact congrArg Value.bool (eqv_take (tt:=.slot) (k:=k) fun e=>by rw [e] at hb;simp at hb)
       · refine .to (k + 1) ⟨by omega,fun i hi=>?_⟩ (by omega) ?_
         · by_cases hik : i = k
           · subst hik;exact slot_ext (by simp_all) (by simp_all)
           · exact ht i (by omega)
         conv=>whnf
         repeat' (first|exact trivial|((first|refine kL ?_|(refine ⟨fun hb=>?_,fun hb=>?_⟩<;>(try simp only [nrm] at hb)<;>(try (first|(exfalso;omega)|contradiction|exact kB hb)))|refine kW cfg_ok ?_|refine kC ?_|refine bdA ?_|refine bd2 ?_|refine bdR ?_|refine bdL ?_)<;>(conv=>whnf))|(refine And.intro ?_ ?_;rotate_left;(conv=>whnf);rotate_right))
     · obtain rfl : k = a.length:=by omega
       conv=>whnf
       repeat' (first|exact trivial|((first|refine kL ?_|(refine ⟨fun hb=>?_,fun hb=>?_⟩<;>(try simp only [nrm] at hb)<;>(try (first|(exfalso;omega)|contradiction|exact kB hb)))|refine kW cfg_ok ?_|refine kC ?_|refine bdA ?_|refine bd2 ?_|refine bdR ?_|refine bdL ?_)<;>(conv=>whnf))|(refine And.intro ?_ ?_;rotate_left;(conv=>whnf);rotate_right))
       exact congrArg Value.bool (eqv_all (tt:=.slot) hl ht)
 · skip
   refine Api.of_fin cfg_ok Tryz.func114 rfl (nt:=24) rfl rfl ?_
   conv=>whnf
   repeat' (first|exact trivial|((first|refine kL ?_|(refine ⟨fun hb=>?_,fun hb=>?_⟩<;>(try simp only [nrm] at hb)<;>(try (first|(exfalso;omega)|contradiction|exact kB hb)))|refine kW cfg_ok ?_|refine kC ?_|refine bdA ?_|refine bd2 ?_|refine bdR ?_|refine bdL ?_)<;>(conv=>whnf))|(refine And.intro ?_ ?_;rotate_left;(conv=>whnf);rotate_right))
   all_goals first|omega|exact congrArg Value.bool (eqv_len hl)
theorem eqHeaps_api (a b : List (El .heap)) (ha : a.length ≤ 9000000000000000000) : Api Tryz.prog 164 [.vec .heap a,.vec .heap b] (bol (eqv a b)):=by
 by_cases hl : a.length = b.length
 · skip
   refine Api.of_fin cfg_ok Tryz.func164 rfl (nt:=24) rfl rfl ?_
   conv=>whnf
   repeat' (first|exact trivial|((first|refine kL ?_|(refine ⟨fun hb=>?_,fun hb=>?_⟩<;>(try simp only [nrm] at hb)<;>(try (first|(exfalso;omega)|contradiction|exact kB hb)))|refine kW cfg_ok ?_|refine kC ?_|refine bdA ?_|refine bd2 ?_|refine bdR ?_|refine bdL ?_)<;>(conv=>whnf))|(refine And.intro ?_ ?_;rotate_left;(conv=>whnf);rotate_right))
   all_goals try omega
   refine Runs.loopS cfg_ok (σ:=Nat) [0,1,12,13] (fun k=>[.vec .heap a,.vec .heap b,i64 a.length,i64 k]) (fun _=>[]) (fun k=>k ≤ a.length ∧ ∀ i < k,elt .heap a i = elt .heap b i) (fun k=>a.length - k) 0 ⟨by omega,by omega⟩ ?_ ?_
   · conv=>whnf
     repeat' (first|exact trivial|((first|refine kL ?_|(refine ⟨fun hb=>?_,fun hb=>?_⟩<;>(try simp only [nrm] at hb)<;>(try (first|(exfalso;omega)|contradiction|exact kB hb)))|refine kW cfg_ok ?_|refine kC ?_|refine bdA ?_|refine bd2 ?_|refine bdR ?_|refine bdL ?_)<;>(conv=>whnf))|(refine And.intro ?_ ?_;rotate_left;(conv=>whnf);rotate_right))
   · rintro k ⟨hk,ht⟩
     by_cases hlt : k < a.length
     · conv=>whnf
       repeat' (first|exact trivial|((first|refine kL ?_|(refine ⟨fun hb=>?_,fun hb=>?_⟩<;>(try simp only [nrm] at hb)<;>(try (first|(exfalso;omega)|contradiction|exact kB hb)))|refine kW cfg_ok ?_|refine kC ?_|refine bdA ?_|refine bd2 ?_|refine bdR ?_|refine bdL ?_)<;>(conv=>whnf))|(refine And.intro ?_ ?_;rotate_left;(conv=>whnf);rotate_right))
       · exact congrArg Value.bool (eqv_take (tt:=.heap) (k:=k) fun e=>by rw [e] at hb;simp at hb)
       · refine .to (k + 1) ⟨by omega,fun i hi=>?_⟩ (by omega) ?_
         · by_cases hik : i = k
           · subst hik;exact heap_ext (by simp_all) (by simp_all) (by simp_all)
           · exact ht i (by omega)
         conv=>whnf
         repeat' (first|exact trivial|((first|refine kL ?_|(refine ⟨fun hb=>?_,fun hb=>?_⟩<;>(try simp only [nrm] at hb)<;>(try (first|(exfalso;omega)|contradiction|exact kB hb)))|refine kW cfg_ok ?_|refine kC ?_|refine bdA ?_|refine bd2 ?_|refine bdR ?_|refine bdL ?_)<;>(conv=>whnf))|(refine And.intro ?_ ?_;rotate_left;(conv=>whnf);rotate_right))
     · obtain rfl : k = a.length:=by omega
       conv=>whnf
       repeat' (first|exact trivial|((first|refine kL ?_|(refine ⟨fun hb=>?_,fun hb=>?_⟩<;>(try simp only [nrm] at hb)<;>(try (first|(exfalso;omega)|contradiction|exact kB hb)))|refine kW cfg_ok ?_|refine kC ?_|refine bdA ?_|refine bd2 ?_|refine bdR ?_|refine bdL ?_)<;>(conv=>whnf))|(refine And.intro ?_ ?_;rotate_left;(conv=>whnf);rotate_right))
       exact congrArg Value.bool (eqv_all (tt:=.heap) hl ht)
 · skip
   refine Api.of_fin cfg_ok Tryz.func164 rfl (nt:=24) rfl rfl ?_
   conv=>whnf
   repeat' (first|exact trivial|((first|refine kL ?_|(refine ⟨fun hb=>?_,fun hb=>?_⟩<;>(try simp only [nrm] at hb)<;>(try (first|(exfalso;omega)|contradiction|exact kB hb)))|refine kW cfg_ok ?_|refine kC ?_|refine bdA ?_|refine bd2 ?_|refine bdR ?_|refine bdL ?_)<;>(conv=>whnf))|(refine And.intro ?_ ?_;rotate_left;(conv=>whnf);rotate_right))
   all_goals first|omega|exact congrArg Value.bool (eqv_len hl)
theorem eqSeens_api (a b : List (El .seen)) (ha : a.length ≤ 9000000000000000000) : Api Tryz.prog 117 [.vec .seen a,.vec .seen b] (bol (eqv a b)):=by
 by_cases hl : a.length = b.length
 · skip
   refine Api.of_fin cfg_ok Tryz.func117 rfl (nt:=24) rfl rfl ?_
   conv=>whnf
   repeat' (first|exact trivial|((first|refine kL ?_|(refine ⟨fun hb=>?_,fun hb=>?_⟩<;>(try simp only [nrm] at hb)<;>(try (first|(exfalso;omega)|contradiction|exact kB hb)))|refine kW cfg_ok ?_|refine kC ?_|refine bdA ?_|refine bd2 ?_|refine bdR ?_|refine bdL ?_)<;>(conv=>whnf))|(refine And.intro ?_ ?_;rotate_left;(conv=>whnf);rotate_right))
   all_goals try omega
   refine Runs.loopS cfg_ok (σ:=Nat) [0,1,12,13] (fun k=>[.vec .seen a,.vec .seen b,i64 a.length,i64 k]) (fun _=>[]) (fun k=>k ≤ a.length ∧ ∀ i < k,elt .seen a i = elt .seen b i) (fun k=>a.length - k) 0 ⟨by omega,by omega⟩ ?_ ?_
   · conv=>whnf
     repeat' (first|exact trivial|((first|refine kL ?_|(refine ⟨fun hb=>?_,fun hb=>?_⟩<;>(try simp only [nrm] at hb)<;>(try (first|(exfalso;omega)|contradiction|exact kB hb)))|refine kW cfg_ok ?_|refine kC ?_|refine bdA ?_|refine bd2 ?_|refine bdR ?_|refine bdL ?_)<;>(conv=>whnf))|(refine And.intro ?_ ?_;rotate_left;(conv=>whnf);rotate_right))
   · rintro k ⟨hk,ht⟩
     by_cases hlt : k < a.length
     · conv=>whnf
       repeat' (first|exact trivial|((first|refine kL ?_|(refine ⟨fun hb=>?_,fun hb=>?_⟩<;>(try simp only [nrm] at hb)<;>(try (first|(exfalso;omega)|contradiction|exact kB hb)))|refine kW cfg_ok ?_|refine kC ?_|refine bdA ?_|refine bd2 ?_|refine bdR ?_|refine bdL ?_)<;>(conv=>whnf))|(refine And.intro ?_ ?_;rotate_left;(conv=>whnf);rotate_right))
       · exact congrArg Value.bool (eqv_take (tt:=.seen) (k:=k) fun e=>by rw [e] at hb;simp at hb)
       · refine .to (k + 1) ⟨by omega,fun i hi=>?_⟩ (by omega) ?_
         · by_cases hik : i = k
           · subst hik;exact seen_ext (by simp_all) (by simp_all) (by simp_all)
           · exact ht i (by omega)
         conv=>whnf
         repeat' (first|exact trivial|((first|refine kL ?_|(refine ⟨fun hb=>?_,fun hb=>?_⟩<;>(try simp only [nrm] at hb)<;>(try (first|(exfalso;omega)|contradiction|exact kB hb)))|refine kW cfg_ok ?_|refine kC ?_|refine bdA ?_|refine bd2 ?_|refine bdR ?_|refine bdL ?_)<;>(conv=>whnf))|(refine And.intro ?_ ?_;rotate_left;(conv=>whnf);rotate_right))
     · obtain rfl : k = a.length:=by omega
       conv=>whnf
       repeat' (first|exact trivial|((first|refine kL ?_|(refine ⟨fun hb=>?_,fun hb=>?_⟩<;>(try simp only [nrm] at hb)<;>(try (first|(exfalso;omega)|contradiction|exact kB hb)))|refine kW cfg_ok ?_|refine kC ?_|refine bdA ?_|refine bd2 ?_|refine bdR ?_|refine bdL ?_)<;>(conv=>whnf))|(refine And.intro ?_ ?_;rotate_left;(conv=>whnf);rotate_right))
       exact congrArg Value.bool (eqv_all (tt:=.seen) hl ht)
 · skip
   refine Api.of_fin cfg_ok Tryz.func117 rfl (nt:=24) rfl rfl ?_
   conv=>whnf
   repeat' (first|exact trivial|((first|refine kL ?_|(refine ⟨fun hb=>?_,fun hb=>?_⟩<;>(try simp only [nrm] at hb)<;>(try (first|(exfalso;omega)|contradiction|exact kB hb)))|refine kW cfg_ok ?_|refine kC ?_|refine bdA ?_|refine bd2 ?_|refine bdR ?_|refine bdL ?_)<;>(conv=>whnf))|(refine And.intro ?_ ?_;rotate_left;(conv=>whnf);rotate_right))
   all_goals first|omega|exact congrArg Value.bool (eqv_len hl)
theorem eqCells_api (a b : List (El .u8)) (ha : a.length ≤ 9000000000000000000) : Api Tryz.prog 142 [.vec .u8 a,.vec .u8 b] (bol (eqv a b)):=by
 by_cases hl : a.length = b.length
 · skip
   refine Api.of_fin cfg_ok Tryz.func142 rfl (nt:=24) rfl rfl ?_
   conv=>whnf
   repeat' (first|exact trivial|((first|refine kL ?_|(refine ⟨fun hb=>?_,fun hb=>?_⟩<;>(try simp only [nrm] at hb)<;>(try (first|(exfalso;omega)|contradiction|exact kB hb)))|refine kW cfg_ok ?_|refine kC ?_|refine bdA ?_|refine bd2 ?_|refine bdR ?_|refine bdL ?_)<;>(conv=>whnf))|(refine And.intro ?_ ?_;rotate_left;(conv=>whnf);rotate_right))
   all_goals try omega
   refine Runs.loopS cfg_ok (σ:=Nat) [0,1,12,13] (fun k=>[.vec .u8 a,.vec .u8 b,i64 a.length,i64 k]) (fun _=>[]) (fun k=>k ≤ a.length ∧ ∀ i < k,elt .u8 a i = elt .u8 b i) (fun k=>a.length - k) 0 ⟨by omega,by omega⟩ ?_ ?_
   · conv=>whnf
     repeat' (first|exact trivial|((first|refine kL ?_|(refine ⟨fun hb=>?_,fun hb=>?_⟩<;>(try simp only [nrm] at hb)<;>(try (first|(exfalso;omega)|contradiction|exact kB hb)))|refine kW cfg_ok ?_|refine kC ?_|refine bdA ?_|refine bd2 ?_|refine bdR ?_|refine bdL ?_)<;>(conv=>whnf))|(refine And.intro ?_ ?_;rotate_left;(conv=>whnf);rotate_right))
   · rintro k ⟨hk,ht⟩
     by_cases hlt : k < a.length
     · conv=>whnf
       repeat' (first|exact trivial|((first|refine kL ?_|(refine ⟨fun hb=>?_,fun hb=>?_⟩<;>(try simp only [nrm] at hb)<;>(try (first|(exfalso;omega)|contradiction|exact kB hb)))|refine kW cfg_ok ?_|refine kC ?_|refine bdA ?_|refine bd2 ?_|refine bdR ?_|refine bdL ?_)<;>(conv=>whnf))|(refine And.intro ?_ ?_;rotate_left;(conv=>whnf);rotate_right))
       · exact congrArg Value.bool (eqv_take (tt:=.u8) (k:=k) fun e=>by rw [e] at hb;simp at hb)
       · refine .to (k + 1) ⟨by omega,fun i hi=>?_⟩ (by omega) ?_
         · by_cases hik : i = k
           · subst hik;exact hb
           · exact ht i (by omega)
         conv=>whnf
         repeat' (first|exact trivial|((first|refine kL ?_|(refine ⟨fun hb=>?_,fun hb=>?_⟩<;>(try simp only [nrm] at hb)<;>(try (first|(exfalso;omega)|contradiction|exact kB hb)))|refine kW cfg_ok ?_|refine kC ?_|refine bdA ?_|refine bd2 ?_|refine bdR ?_|refine bdL ?_)<;>(conv=>whnf))|(refine And.intro ?_ ?_;rotate_left;(conv=>whnf);rotate_right))
     · obtain rfl : k = a.length:=by omega
       conv=>whnf
       repeat' (first|exact trivial|((first|refine kL ?_|(refine ⟨fun hb=>?_,fun hb=>?_⟩<;>(try simp only [nrm] at hb)<;>(try (first|(exfalso;omega)|contradiction|exact kB hb)))|refine kW cfg_ok ?_|refine kC ?_|refine bdA ?_|refine bd2 ?_|refine bdR ?_|refine bdL ?_)<;>(conv=>whnf))|(refine And.intro ?_ ?_;rotate_left;(conv=>whnf);rotate_right))
       exact congrArg Value.bool (eqv_all (tt:=.u8) hl ht)
 · skip
   refine Api.of_fin cfg_ok Tryz.func142 rfl (nt:=24) rfl rfl ?_
   conv=>whnf
   repeat' (first|exact trivial|((first|refine kL ?_|(refine ⟨fun hb=>?_,fun hb=>?_⟩<;>(try simp only [nrm] at hb)<;>(try (first|(exfalso;omega)|contradiction|exact kB hb)))|refine kW cfg_ok ?_|refine kC ?_|refine bdA ?_|refine bd2 ?_|refine bdR ?_|refine bdL ?_)<;>(conv=>whnf))|(refine And.intro ?_ ?_;rotate_left;(conv=>whnf);rotate_right))
   all_goals first|omega|exact congrArg Value.bool (eqv_len hl)
theorem vboxeq_api (a b : Box) (ha : a.bag.length ≤ 9000000000000000000) : Api Tryz.prog 166 [.agg (cells .box a),.agg (cells .box b)] (bol (eqv a b)):=by
 have h1:=eqSlots_api a.bag b.bag ha
 by_cases he : a.bag = b.bag
 · rw [eqv_iff.2 he] at h1
   by_cases hc : a.cell = b.cell
   · rw [eqv_iff.2 (box_ext hc he)]
     refine Api.of_fin cfg_ok Tryz.func166 rfl (nt:=15) rfl rfl ?_
     conv=>whnf
     repeat' (first|exact trivial|((first|refine kL ?_|(refine ⟨fun hb=>?_,fun hb=>?_⟩<;>(try simp only [nrm] at hb)<;>(try (first|(exfalso;omega)|contradiction|exact kB hb)))|refine kA h1 ?_|refine kD h1 ?_|refine kW cfg_ok ?_|refine kC ?_|refine bdA ?_|refine bd2 ?_|refine bdR ?_|refine bdL ?_)<;>(conv=>whnf))|(refine And.intro ?_ ?_;rotate_left;(conv=>whnf);rotate_right))
     all_goals first|rfl|omega|trace_state
   · rw [eqv_false.2 (fun e=>hc (by rw [e]))]
     refine Api.of_fin cfg_ok Tryz.func166 rfl (nt:=15) rfl rfl ?_
     conv=>whnf
     repeat' (first|exact trivial|((first|refine kL ?_|(refine ⟨fun hb=>?_,fun hb=>?_⟩<;>(try simp only [nrm] at hb)<;>(try (first|(exfalso;omega)|contradiction|exact kB hb)))|refine kA h1 ?_|refine kD h1 ?_|refine kW cfg_ok ?_|refine kC ?_|refine bdA ?_|refine bd2 ?_|refine bdR ?_|refine bdL ?_)<;>(conv=>whnf))|(refine And.intro ?_ ?_;rotate_left;(conv=>whnf);rotate_right))
     all_goals first|rfl|omega|trace_state
 · rw [eqv_false.2 he] at h1
   rw [eqv_false.2 (fun e=>he (by rw [e]))]
   refine Api.of_fin cfg_ok Tryz.func166 rfl (nt:=15) rfl rfl ?_
   conv=>whnf
   repeat' (first|exact trivial|((first|refine kL ?_|(refine ⟨fun hb=>?_,fun hb=>?_⟩<;>(try simp only [nrm] at hb)<;>(try (first|(exfalso;omega)|contradiction|exact kB hb)))|refine kA h1 ?_|refine kD h1 ?_|refine kW cfg_ok ?_|refine kC ?_|refine bdA ?_|refine bd2 ?_|refine bdR ?_|refine bdL ?_)<;>(conv=>whnf))|(refine And.intro ?_ ?_;rotate_left;(conv=>whnf);rotate_right))
   all_goals first|rfl|omega|trace_state
def bagLe (x : Box) : Prop:=x.bag.length ≤ 9000000000000000000
theorem eqBoxes_api (a b : List (El .box)) (ha : a.length ≤ 9000000000000000000) (hw : ∀ x ∈ a,bagLe x) : Api Tryz.prog 165 [.vec .box a,.vec .box b,.lit (.func (.func 166) #[] #[])] (bol (eqv a b)):=by
 by_cases hl : a.length = b.length
 · skip
   refine Api.of_fin cfg_ok Tryz.func165 rfl (nt:=29) rfl rfl ?_
   conv=>whnf
   repeat' (first|exact trivial|((first|refine kL ?_|(refine ⟨fun hb=>?_,fun hb=>?_⟩<;>(try simp only [nrm] at hb)<;>(try (first|(exfalso;omega)|contradiction|exact kB hb)))|refine kW cfg_ok ?_|refine kC ?_|refine bdA ?_|refine bd2 ?_|refine bdR ?_|refine bdL ?_)<;>(conv=>whnf))|(refine And.intro ?_ ?_;rotate_left;(conv=>whnf);rotate_right))
   all_goals try omega
   refine Runs.loopS cfg_ok (σ:=Nat) [1,2,15,16,17] (fun k=>[.vec .box b,.lit (.func (.func 166) #[] #[]),.vec .box a,i64 a.length,i64 k]) (fun _=>[]) (fun k=>k ≤ a.length ∧ ∀ i < k,elt .box a i = elt .box b i) (fun k=>a.length - k) 0 ⟨by omega,by omega⟩ ?_ ?_
   · conv=>whnf
     repeat' (first|exact trivial|((first|refine kL ?_|(refine ⟨fun hb=>?_,fun hb=>?_⟩<;>(try simp only [nrm] at hb)<;>(try (first|(exfalso;omega)|contradiction|exact kB hb)))|refine kW cfg_ok ?_|refine kC ?_|refine bdA ?_|refine bd2 ?_|refine bdR ?_|refine bdL ?_)<;>(conv=>whnf))|(refine And.intro ?_ ?_;rotate_left;(conv=>whnf);rotate_right))
   · rintro k ⟨hk,ht⟩
     by_cases hlt : k < a.length
     · have hcl:=vboxeq_api (elt .box a k) (elt .box b k) (hw _ (elt_mem (t:=.box) hlt))
       by_cases he : elt .box a k = elt .box b k
       · rw [eqv_iff.2 he] at hcl
         conv=>whnf
         repeat' (first|exact trivial|((first|refine kL ?_|(refine ⟨fun hb=>?_,fun hb=>?_⟩<;>(try simp only [nrm] at hb)<;>(try (first|(exfalso;omega)|contradiction|exact kB hb)))|refine kA hcl ?_|refine kD hcl ?_|refine kW cfg_ok ?_|refine kC ?_|refine bdA ?_|refine bd2 ?_|refine bdR ?_|refine bdL ?_)<;>(conv=>whnf))|(refine And.intro ?_ ?_;rotate_left;(conv=>whnf);rotate_right))
         refine .to (k + 1) ⟨by omega,fun i hi=>?_⟩ (by omega) ?_
         · by_cases hik : i = k
           · rw [hik];exact he
           · exact ht i (by omega)
         conv=>whnf
         repeat' (first|exact trivial|((first|refine kL ?_|(refine ⟨fun hb=>?_,fun hb=>?_⟩<;>(try simp only [nrm] at hb)<;>(try (first|(exfalso;omega)|contradiction|exact kB hb)))|refine kW cfg_ok ?_|refine kC ?_|refine bdA ?_|refine bd2 ?_|refine bdR ?_|refine bdL ?_)<;>(conv=>whnf))|(refine And.intro ?_ ?_;rotate_left;(conv=>whnf);rotate_right))
       · rw [eqv_false.2 he] at hcl
         conv=>whnf
         repeat' (first|exact trivial|((first|refine kL ?_|(refine ⟨fun hb=>?_,fun hb=>?_⟩<;>(try simp only [nrm] at hb)<;>(try (first|(exfalso;omega)|contradiction|exact kB hb)))|refine kA hcl ?_|refine kD hcl ?_|refine kW cfg_ok ?_|refine kC ?_|refine bdA ?_|refine bd2 ?_|refine bdR ?_|refine bdL ?_)<;>(conv=>whnf))|(refine And.intro ?_ ?_;rotate_left;(conv=>whnf);rotate_right))
         exact congrArg Value.bool (eqv_take (tt:=.box) (k:=k) he)
     · obtain rfl : k = a.length:=by omega
       conv=>whnf
       repeat' (first|exact trivial|((first|refine kL ?_|(refine ⟨fun hb=>?_,fun hb=>?_⟩<;>(try simp only [nrm] at hb)<;>(try (first|(exfalso;omega)|contradiction|exact kB hb)))|refine kW cfg_ok ?_|refine kC ?_|refine bdA ?_|refine bd2 ?_|refine bdR ?_|refine bdL ?_)<;>(conv=>whnf))|(refine And.intro ?_ ?_;rotate_left;(conv=>whnf);rotate_right))
       exact congrArg Value.bool (eqv_all (tt:=.box) hl ht)
 · skip
   refine Api.of_fin cfg_ok Tryz.func165 rfl (nt:=29) rfl rfl ?_
   conv=>whnf
   repeat' (first|exact trivial|((first|refine kL ?_|(refine ⟨fun hb=>?_,fun hb=>?_⟩<;>(try simp only [nrm] at hb)<;>(try (first|(exfalso;omega)|contradiction|exact kB hb)))|refine kW cfg_ok ?_|refine kC ?_|refine bdA ?_|refine bd2 ?_|refine bdR ?_|refine bdL ?_)<;>(conv=>whnf))|(refine And.intro ?_ ?_;rotate_left;(conv=>whnf);rotate_right))
   all_goals first|omega|exact congrArg Value.bool (eqv_len hl)
theorem OkC.bags {c : Chunk} (hc : OkC c) : ∀ x ∈ c.boxes,bagLe x:=fun x hx=>by
 have:=(hc.boxes x hx).2
 unfold big at this
 unfold bagLe;omega
theorem vsamec_self (a : Chunk) (hc : OkC a) : Api Tryz.prog 116 [.agg (cells .chunk a),.agg (cells .chunk a)] (bol true):=by
 have h1:=eqCells_api a.cells a.cells hc.nc
 have h2:=eqHeaps_api a.heaps a.heaps hc.nh
 have h3:=eqBoxes_api a.boxes a.boxes hc.nb hc.bags
 rw [eqv_self] at h1 h2 h3
 refine Api.of_fin cfg_ok Tryz.func116 rfl (nt:=36) rfl rfl ?_
 conv=>whnf
 repeat' (first|exact trivial|((first|refine kL ?_|(refine ⟨fun hb=>?_,fun hb=>?_⟩<;>(try simp only [nrm] at hb)<;>(try (first|(exfalso;omega)|contradiction|exact kB hb)))|refine kA h1 ?_|refine kD h1 ?_|refine kA h2 ?_|refine kD h2 ?_|refine kA h3 ?_|refine kD h3 ?_|refine kW cfg_ok ?_|refine kC ?_|refine bdA ?_|refine bd2 ?_|refine bdR ?_|refine bdL ?_)<;>(conv=>whnf))|(refine And.intro ?_ ?_;rotate_left;(conv=>whnf);rotate_right))
 all_goals first|rfl|omega|trace_state
theorem vsamec_ne (a b : Chunk) (hc : OkC a) (hne : ¬ a = b) : Api Tryz.prog 116 [.agg (cells .chunk a),.agg (cells .chunk b)] (bol false):=by
 have h1:=eqCells_api a.cells b.cells hc.nc
 have h2:=eqHeaps_api a.heaps b.heaps hc.nh
 have h3:=eqBoxes_api a.boxes b.boxes hc.nb hc.bags
 cases e1 : eqv a.cells b.cells
 all_goals
   cases e2 : eqv a.heaps b.heaps
   all_goals
     cases e3 : eqv a.boxes b.boxes
     all_goals
       rw [e1] at h1
       rw [e2] at h2
       rw [e3] at h3
       refine Api.of_fin cfg_ok Tryz.func116 rfl (nt:=36) rfl rfl ?_
       conv=>whnf
       repeat' (first|exact trivial|((first|refine kL ?_|(refine ⟨fun hb=>?_,fun hb=>?_⟩<;>(try simp only [nrm] at hb)<;>(try (first|(exfalso;omega)|contradiction|exact kB hb)))|refine kA h1 ?_|refine kD h1 ?_|refine kA h2 ?_|refine kD h2 ?_|refine kA h3 ?_|refine kD h3 ?_|refine kW cfg_ok ?_|refine kC ?_|refine bdA ?_|refine bd2 ?_|refine bdR ?_|refine bdL ?_)<;>(conv=>whnf))|(refine And.intro ?_ ?_;rotate_left;(conv=>whnf);rotate_right))
 all_goals first|rfl|(exact absurd (chunk_ext (by assumption) (by assumption) (eqv_iff.1 e1) (eqv_iff.1 e2) (eqv_iff.1 e3)) hne)|omega|trace_state
theorem vsamec_api (a b : Chunk) (hc : OkC a) : Api Tryz.prog 116 [.agg (cells .chunk a),.agg (cells .chunk b)] (bol (eqv a b)):=by
 by_cases h : a = b
 · subst h;rw [eqv_self];exact vsamec_self a hc
 · rw [eqv_false.2 h];exact vsamec_ne a b hc h
theorem eqChunks_api (a b : List (El .chunk)) (ha : a.length ≤ 9000000000000000000) (hw : ∀ x ∈ a,OkC x) : Api Tryz.prog 115 [.vec .chunk a,.vec .chunk b,.lit (.func (.func 116) #[] #[])] (bol (eqv a b)):=by
 by_cases hl : a.length = b.length
 · skip
   refine Api.of_fin cfg_ok Tryz.func115 rfl (nt:=29) rfl rfl ?_
   conv=>whnf
   repeat' (first|exact trivial|((first|refine kL ?_|(refine ⟨fun hb=>?_,fun hb=>?_⟩<;>(try simp only [nrm] at hb)<;>(try (first|(exfalso;omega)|contradiction|exact kB hb)))|refine kW cfg_ok ?_|refine kC ?_|refine bdA ?_|refine bd2 ?_|refine bdR ?_|refine bdL ?_)<;>(conv=>whnf))|(refine And.intro ?_ ?_;rotate_left;(conv=>whnf);rotate_right))
   all_goals try omega
   refine Runs.loopS cfg_ok (σ:=Nat) [1,2,15,16,17] (fun k=>[.vec .chunk b,.lit (.func (.func 116) #[] #[]),.vec .chunk a,i64 a.length,i64 k]) (fun _=>[]) (fun k=>k ≤ a.length ∧ ∀ i < k,elt .chunk a i = elt .chunk b i) (fun k=>a.length - k) 0 ⟨by omega,by omega⟩ ?_ ?_
   · conv=>whnf
     repeat' (first|exact trivial|((first|refine kL ?_|(refine ⟨fun hb=>?_,fun hb=>?_⟩<;>(try simp only [nrm] at hb)<;>(try (first|(exfalso;omega)|contradiction|exact kB hb)))|refine kW cfg_ok ?_|refine kC ?_|refine bdA ?_|refine bd2 ?_|refine bdR ?_|refine bdL ?_)<;>(conv=>whnf))|(refine And.intro ?_ ?_;rotate_left;(conv=>whnf);rotate_right))
   · rintro k ⟨hk,ht⟩
     by_cases hlt : k < a.length
     · have hcl:=vsamec_api (elt .chunk a k) (elt .chunk b k) (hw _ (elt_mem (t:=.chunk) hlt))
       by_cases he : elt .chunk a k = elt .chunk b k
       · rw [eqv_iff.2 he] at hcl
         conv=>whnf
         repeat' (first|exact trivial|((first|refine kL ?_|(refine ⟨fun hb=>?_,fun hb=>?_⟩<;>(try simp only [nrm] at hb)<;>(try (first|(exfalso;omega)|contradiction|exact kB hb)))|refine kA hcl ?_|refine kD hcl ?_|refine kW cfg_ok ?_|refine kC ?_|refine bdA ?_|refine bd2 ?_|refine bdR ?_|refine bdL ?_)<;>(conv=>whnf))|(refine And.intro ?_ ?_;rotate_left;(conv=>whnf);rotate_right))
         refine .to (k + 1) ⟨by omega,fun i hi=>?_⟩ (by omega) ?_
         · by_cases hik : i = k
           · rw [hik];exact he
           · exact ht i (by omega)
         conv=>whnf
         repeat' (first|exact trivial|((first|refine kL ?_|(refine ⟨fun hb=>?_,fun hb=>?_⟩<;>(try simp only [nrm] at hb)<;>(try (first|(exfalso;omega)|contradiction|exact kB hb)))|refine kW cfg_ok ?_|refine kC ?_|refine bdA ?_|refine bd2 ?_|refine bdR ?_|refine bdL ?_)<;>(conv=>whnf))|(refine And.intro ?_ ?_;rotate_left;(conv=>whnf);rotate_right))
       · rw [eqv_false.2 he] at hcl
         conv=>whnf
         repeat' (first|exact trivial|((first|refine kL ?_|(refine ⟨fun hb=>?_,fun hb=>?_⟩<;>(try simp only [nrm] at hb)<;>(try (first|(exfalso;omega)|contradiction|exact kB hb)))|refine kA hcl ?_|refine kD hcl ?_|refine kW cfg_ok ?_|refine kC ?_|refine bdA ?_|refine bd2 ?_|refine bdR ?_|refine bdL ?_)<;>(conv=>whnf))|(refine And.intro ?_ ?_;rotate_left;(conv=>whnf);rotate_right))
         exact congrArg Value.bool (eqv_take (tt:=.chunk) (k:=k) he)
     · obtain rfl : k = a.length:=by omega
       conv=>whnf
       repeat' (first|exact trivial|((first|refine kL ?_|(refine ⟨fun hb=>?_,fun hb=>?_⟩<;>(try simp only [nrm] at hb)<;>(try (first|(exfalso;omega)|contradiction|exact kB hb)))|refine kW cfg_ok ?_|refine kC ?_|refine bdA ?_|refine bd2 ?_|refine bdR ?_|refine bdL ?_)<;>(conv=>whnf))|(refine And.intro ?_ ?_;rotate_left;(conv=>whnf);rotate_right))
       exact congrArg Value.bool (eqv_all (tt:=.chunk) hl ht)
 · skip
   refine Api.of_fin cfg_ok Tryz.func115 rfl (nt:=29) rfl rfl ?_
   conv=>whnf
   repeat' (first|exact trivial|((first|refine kL ?_|(refine ⟨fun hb=>?_,fun hb=>?_⟩<;>(try simp only [nrm] at hb)<;>(try (first|(exfalso;omega)|contradiction|exact kB hb)))|refine kW cfg_ok ?_|refine kC ?_|refine bdA ?_|refine bd2 ?_|refine bdR ?_|refine bdL ?_)<;>(conv=>whnf))|(refine And.intro ?_ ?_;rotate_left;(conv=>whnf);rotate_right))
   all_goals first|omega|exact congrArg Value.bool (eqv_len hl)
theorem viw_ext {a b : Viw} (h1 : a.tick = b.tick) (h2 : a.me = b.me) (h3 : a.chunks = b.chunks) (h4 : a.others = b.others) : a = b:=by cases a;cases b;simp_all
theorem vsame_self (a : Viw) (hv : OkV a) : Api Tryz.prog 44 [viewV a,viewV a] (bol true):=by
 have hn1:=hv.me.nb
 have hn2:=hv.me.no
 have hn3:=hv.nc
 have hn4:=hv.no
 have h1:=eqSlots_api a.me.bag a.me.bag (by omega)
 have h2:=eqSlots_api a.me.offer a.me.offer (by omega)
 have h3:=eqChunks_api a.chunks a.chunks (by omega) hv.chunks
 have h4:=eqSeens_api a.others a.others (by omega)
 rw [eqv_self] at h1 h2 h3 h4
 refine Api.of_fin cfg_ok Tryz.func44 rfl (nt:=77) rfl rfl ?_
 conv=>whnf
 repeat' (first|exact trivial|((first|refine kL ?_|(refine ⟨fun hb=>?_,fun hb=>?_⟩<;>(try simp only [nrm] at hb)<;>(try (first|(exfalso;omega)|contradiction|exact kB hb)))|refine kA h1 ?_|refine kD h1 ?_|refine kA h2 ?_|refine kD h2 ?_|refine kA h3 ?_|refine kD h3 ?_|refine kA h4 ?_|refine kD h4 ?_|refine kW cfg_ok ?_|refine kC ?_|refine bdA ?_|refine bd2 ?_|refine bdR ?_|refine bdL ?_)<;>(conv=>whnf))|(refine And.intro ?_ ?_;rotate_left;(conv=>whnf);rotate_right))
 all_goals first|rfl|omega|trace_state
theorem vsame_ne (a b : Viw) (hv : OkV a) (hne : ¬ a = b) : Api Tryz.prog 44 [viewV a,viewV b] (bol false):=by
 have hn1:=hv.me.nb
 have hn2:=hv.me.no
 have hn3:=hv.nc
 have hn4:=hv.no
 have h1:=eqSlots_api a.me.bag b.me.bag (by omega)
 have h2:=eqSlots_api a.me.offer b.me.offer (by omega)
 have h3:=eqChunks_api a.chunks b.chunks (by omega) hv.chunks
 have h4:=eqSeens_api a.others b.others (by omega)
 cases e1 : eqv a.me.bag b.me.bag
 all_goals
   cases e2 : eqv a.me.offer b.me.offer
   all_goals
     cases e3 : eqv a.chunks b.chunks
     all_goals
       cases e4 : eqv a.others b.others
       all_goals
         rw [e1] at h1
         rw [e2] at h2
         rw [e3] at h3
         rw [e4] at h4
         refine Api.of_fin cfg_ok Tryz.func44 rfl (nt:=77) rfl rfl ?_
         conv=>whnf
         repeat' (first|exact trivial|((first|refine kL ?_|(refine ⟨fun hb=>?_,fun hb=>?_⟩<;>(try simp only [nrm] at hb)<;>(try (first|(exfalso;omega)|contradiction|exact kB hb)))|refine kA h1 ?_|refine kD h1 ?_|refine kA h2 ?_|refine kD h2 ?_|refine kA h3 ?_|refine kD h3 ?_|refine kA h4 ?_|refine kD h4 ?_|refine kW cfg_ok ?_|refine kC ?_|refine bdA ?_|refine bd2 ?_|refine bdR ?_|refine bdL ?_)<;>(conv=>whnf))|(refine And.intro ?_ ?_;rotate_left;(conv=>whnf);rotate_right))
 all_goals first|rfl|(exact absurd (viw_ext (by assumption) (player_ext (by assumption) (by assumption) (by assumption) (eqv_iff.1 e1) (by assumption) (eqv_iff.1 e2) (by assumption)) (eqv_iff.1 e3) (eqv_iff.1 e4)) hne)|omega|trace_state
theorem vsame_api (a b : Viw) (hv : OkV a) : Api Tryz.prog 44 [viewV a,viewV b] (bol (eqv a b)):=by
 by_cases h : a = b
 · subst h;rw [eqv_self];exact vsame_self a hv
 · rw [eqv_false.2 h];exact vsame_ne a b hv h
end Go.Proofs.YtaecchphjploaaaGreat
