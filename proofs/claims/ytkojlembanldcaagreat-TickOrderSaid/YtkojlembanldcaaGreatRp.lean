/- What is together behind orders and ticks. -/
import Derived.Test.YtkojlembanldcaaGreatRe
import Derived.Test.YtkojlembanldcaaGreatRb
set_option linter.unusedSimpArgs false
set_option linter.unusedVariables false
set_option maxRecDepth 100000
set_option maxHeartbeats 4000000
namespace Go.Proofs.YtkojlembanldcaaGreat
open Go Go.RowKit Eng
theorem run_keep {w : Wld} (hR : RW w) (o : Order) {k : Nat} (hk : k < 13) : tw k (stepW w o).1 = tw k w + elt .i64 (deltasW w o.player o.cmd) k:=keep_law hR _ _ hk
theorem hv_elt (w : Wld) {k : Nat} (hk : k < 13) : elt .i64 (haveW w) k = tw k w:=by
 unfold haveW hv elt
 rw [List.getElem?_append_left (by simpa using hk),List.getElem?_map,List.getElem?_range hk];rfl
theorem elt13_ext {a b : List Int} (ha : a.length = 13) (hb : b.length = 13) (h : ∀ k : Nat,k < 13 → elt .i64 a k = (elt .i64 b k : Int)) : a = b:=by
 refine List.ext_getElem? fun i=>?_
 by_cases hi : i < 13
 · have:=h i hi
   rw [elt_get .i64 a i (by omega),elt_get .i64 b i (by omega)]
   exact congrArg some this
 · rw [List.getElem?_eq_none (by omega),List.getElem?_eq_none (by omega)]
def mixL (C D : List Int) (k : Nat) : List Int:=(List.range k).map (fun i=>(elt .i64 C i : Int) + elt .i64 D i) ++ C.drop k
theorem mix_len {C D : List Int} (hC : C.length = 13) {k : Nat} (hk : k ≤ 13) : (mixL C D k).length = 13:=by unfold mixL;simp;omega
theorem mix_at {C D : List Int} {k : Nat} (hC : C.length = 13) (hk : k < 13) : elt .i64 (mixL C D k) k = elt .i64 C k:=by
 unfold mixL elt
 rw [List.getElem?_append_right (by simp),List.length_map,List.length_range,Nat.sub_self,List.getElem?_drop,Nat.add_zero]
theorem mix_next {C D : List Int} (hC : C.length = 13) {k : Nat} (hk : k < 13) : (mixL C D k).set k ((elt .i64 C k : Int) + elt .i64 D k) = mixL C D (k + 1):=by
 unfold mixL
 rw [List.range_succ,List.map_append,List.set_append_right _ _ (by simp)]
 simp only [List.length_map,List.length_range,Nat.sub_self,List.map_cons,List.map_nil,List.append_assoc,List.cons_append,List.nil_append]
 rw [List.drop_eq_getElem_cons (by omega),List.set_cons_zero]
theorem mix_end {C D : List Int} (hC : C.length = 13) {k : Nat} (hk : k < 13) : elt .i64 (mixL C D 13) k = (elt .i64 C k : Int) + elt .i64 D k:=by
 unfold mixL
 rw [List.drop_of_length_le (by omega),List.append_nil]
 unfold elt
 rw [List.getElem?_map,List.getElem?_range hk];rfl
theorem deltas_len (w : Wld) (id : Int) (c : Cmd) : (deltasW w id c).length = 13:=by
 unfold deltasW
 (repeat' split)<;>first|rfl|(rw [addAt_len];rfl)|(rw [addAt_len,subAll_len];rfl)
theorem have_step {w : Wld} (hR : RW w) (o : Order) : mixL (haveW w) (deltasW w o.player o.cmd) 13 = haveW (stepW w o).1:=by
 have hl : (haveW w).length = 13:=hv_len w (by omega)
 refine elt13_ext (mix_len hl (by omega)) (hv_len _ (by omega)) fun k hk=>?_
 rw [mix_end hl hk,hv_elt _ hk,hv_elt _ hk,run_keep hR o hk]
theorem have_bd {w : Wld} (hR : RW w) {k : Nat} (hk : k < 13) : inN 288230376151711744 (elt .i64 (haveW w) k):=by
 rw [hv_elt w hk,← count_slots]
 exact pre_bd hR (List.prefix_refl _) _
end Go.Proofs.YtkojlembanldcaaGreat
