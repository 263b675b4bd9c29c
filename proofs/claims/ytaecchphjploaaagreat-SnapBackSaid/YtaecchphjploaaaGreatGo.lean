/- snap.Make. -/
import Derived.Test.YtaecchphjploaaaGreatGn
import Derived.Test.YtaecchphjploaaaGreatGm
import Derived.Test.YtaecchphjploaaaGreatGj
set_option linter.unusedSimpArgs false
set_option linter.unusedVariables false
set_option maxRecDepth 100000
set_option maxHeartbeats 16000000
namespace Go.Proofs.YtaecchphjploaaaGreat
open Go Go.RowKit Eng
theorem tboxeq_api (a b : Box) (ha : a.bag.length ≤ 9000000000000000000) : Api Tryz.prog 187 [.agg (cells .box a),.agg (cells .box b)] (bol (eqv a b)):=by
 have h1:=eqSlots_api a.bag b.bag ha
 by_cases he : a.bag = b.bag
 · rw [eqv_iff.2 he] at h1
   by_cases hc : a.cell = b.cell
   · rw [eqv_iff.2 (box_ext hc he)]
     refine Api.of_fin cfg_ok Tryz.func187 rfl (nt:=15) rfl rfl ?_
     conv=>whnf
     repeat' (first|exact trivial|((first|refine kL ?_|(refine ⟨fun hb=>?_,fun hb=>?_⟩<;>(try simp only [nrm] at hb)<;>(try (first|(exfalso;omega)|contradiction|exact kB hb)))|refine kA h1 ?_|refine kD h1 ?_|refine kW cfg_ok ?_|refine kC ?_|refine bdA ?_|refine bd2 ?_|refine bdR ?_|refine bdL ?_)<;>(conv=>whnf))|(refine And.intro ?_ ?_;rotate_left;(conv=>whnf);rotate_right))
     all_goals first|rfl|omega
   · rw [eqv_false.2 (fun e=>hc (by rw [e]))]
     refine Api.of_fin cfg_ok Tryz.func187 rfl (nt:=15) rfl rfl ?_
     conv=>whnf
     repeat' (first|exact trivial|((first|refine kL ?_|(refine ⟨fun hb=>?_,fun hb=>?_⟩<;>(try simp only [nrm] at hb)<;>(try (first|(exfalso;omega)|contradiction|exact kB hb)))|refine kA h1 ?_|refine kD h1 ?_|refine kW cfg_ok ?_|refine kC ?_|refine bdA ?_|refine bd2 ?_|refine bdR ?_|refine bdL ?_)<;>(conv=>whnf))|(refine And.intro ?_ ?_;rotate_left;(conv=>whnf);rotate_right))
     all_goals first|rfl|omega
 · rw [eqv_false.2 he] at h1
   rw [eqv_false.2 (fun e=>he (by rw [e]))]
   refine Api.of_fin cfg_ok Tryz.func187 rfl (nt:=15) rfl rfl ?_
   conv=>whnf
   repeat' (first|exact trivial|((first|refine kL ?_|(refine ⟨fun hb=>?_,fun hb=>?_⟩<;>(try simp only [nrm] at hb)<;>(try (first|(exfalso;omega)|contradiction|exact kB hb)))|refine kA h1 ?_|refine kD h1 ?_|refine kW cfg_ok ?_|refine kC ?_|refine bdA ?_|refine bd2 ?_|refine bdR ?_|refine bdL ?_)<;>(conv=>whnf))|(refine And.intro ?_ ?_;rotate_left;(conv=>whnf);rotate_right))
   all_goals first|rfl|omega
theorem eqBoxesT_api (a b : List (El .box)) (ha : a.length ≤ 9000000000000000000) (hw : ∀ x ∈ a,bagLe x) : Api Tryz.prog 165 [.vec .box a,.vec .box b,.lit (.func (.func 187) #[] #[])] (bol (eqv a b)):=by
 by_cases hl : a.length = b.length
 · skip
   refine Api.of_fin cfg_ok Tryz.func165 rfl (nt:=29) rfl rfl ?_
   conv=>whnf
   repeat' (first|exact trivial|((first|refine kL ?_|(refine ⟨fun hb=>?_,fun hb=>?_⟩<;>(try simp only [nrm] at hb)<;>(try (first|(exfalso;omega)|contradiction|exact kB hb)))|refine kW cfg_ok ?_|refine kC ?_|refine bdA ?_|refine bd2 ?_|refine bdR ?_|refine bdL ?_)<;>(conv=>whnf))|(refine And.intro ?_ ?_;rotate_left;(conv=>whnf);rotate_right))
   all_goals try omega
   refine Runs.loopS cfg_ok (σ:=Nat) [1,2,15,16,17] (fun k=>[.vec .box b,.lit (.func (.func 187) #[] #[]),.vec .box a,i64 a.length,i64 k]) (fun _=>[]) (fun k=>k ≤ a.length ∧ ∀ i < k,elt .box a i = elt .box b i) (fun k=>a.length - k) 0 ⟨by omega,by omega⟩ ?_ ?_
   · conv=>whnf
     repeat' (first|exact trivial|((first|refine kL ?_|(refine ⟨fun hb=>?_,fun hb=>?_⟩<;>(try simp only [nrm] at hb)<;>(try (first|(exfalso;omega)|contradiction|exact kB hb)))|refine kW cfg_ok ?_|refine kC ?_|refine bdA ?_|refine bd2 ?_|refine bdR ?_|refine bdL ?_)<;>(conv=>whnf))|(refine And.intro ?_ ?_;rotate_left;(conv=>whnf);rotate_right))
   · rintro k ⟨hk,ht⟩
     by_cases hlt : k < a.length
     · have hcl:=tboxeq_api (elt .box a k) (elt .box b k) (hw _ (elt_mem (t:=.box) hlt))
       by_cases he : elt .box a k = elt .box b k
       · rw [eqv_iff.2 he] at hcl
         conv=>whnf
         repeat' (first|exact trivial|((first|refine kL ?_|(refine ⟨fun hb=>?_,fun hb=>?_⟩<;>(try simp only [nrm] at hb)<;>(try (first|(exfalso;omega)|contradiction|exact kB hb)))|refine kA hcl ?_|refine kD hcl ?_|refine kW cfg_ok ?_|refine kC ?_|refine bdA ?_|refine bd2 ?_|refine bdR ?_|refine bdL ?_)<;>(conv=>whnf))|(refine And.intro ?_ ?_;rotate_left;(conv=>whnf);rotate_right))
         refine .to (k + 1) ⟨by omega,fun i hi=>?_⟩ (by omega) ?_
         · by_cases hik : i = k
           · rw [hik];exact he
           · exact ht i (by omega)
         conv=>whnf
         repeat' (first|exact trivial|((first|refine kL ?_|(refine ⟨fun hb=>?_,fun hb=>?_⟩<;>(try simp only [nrm] at hb)<;>(try (first|(exfalso;omega)|contradiction|exact kB hb)))|refine kW cfg_ok ?_|refine kC ?_|refine bdA ?_|refine bd2 ?_|refine bdR ?_|refine bdL ?_)<;>(conv=>whnf))|(refine And.intro ?_ ?_;rotate_left;(conv=>whnf);rotate_right))
       · rw [eqv_false.2 he] at hcl
         conv=>whnf
         repeat' (first|exact trivial|((first|refine kL ?_|(refine ⟨fun hb=>?_,fun hb=>?_⟩<;>(try simp only [nrm] at hb)<;>(try (first|(exfalso;omega)|contradiction|exact kB hb)))|refine kA hcl ?_|refine kD hcl ?_|refine kW cfg_ok ?_|refine kC ?_|refine bdA ?_|refine bd2 ?_|refine bdR ?_|refine bdL ?_)<;>(conv=>whnf))|(refine And.intro ?_ ?_;rotate_left;(conv=>whnf);rotate_right))
         exact congrArg Value.bool (eqv_take (tt:=.box) (k:=k) he)
     · obtain rfl : k = a.length:=by omega
       conv=>whnf
       repeat' (first|exact trivial|((first|refine kL ?_|(refine ⟨fun hb=>?_,fun hb=>?_⟩<;>(try simp only [nrm] at hb)<;>(try (first|(exfalso;omega)|contradiction|exact kB hb)))|refine kW cfg_ok ?_|refine kC ?_|refine bdA ?_|refine bd2 ?_|refine bdR ?_|refine bdL ?_)<;>(conv=>whnf))|(refine And.intro ?_ ?_;rotate_left;(conv=>whnf);rotate_right))
       exact congrArg Value.bool (eqv_all (tt:=.box) hl ht)
 · skip
   refine Api.of_fin cfg_ok Tryz.func165 rfl (nt:=29) rfl rfl ?_
   conv=>whnf
   repeat' (first|exact trivial|((first|refine kL ?_|(refine ⟨fun hb=>?_,fun hb=>?_⟩<;>(try simp only [nrm] at hb)<;>(try (first|(exfalso;omega)|contradiction|exact kB hb)))|refine kW cfg_ok ?_|refine kC ?_|refine bdA ?_|refine bd2 ?_|refine bdR ?_|refine bdL ?_)<;>(conv=>whnf))|(refine And.intro ?_ ?_;rotate_left;(conv=>whnf);rotate_right))
   all_goals first|omega|exact congrArg Value.bool (eqv_len hl)
theorem diffI_next {a b : List (El .u8)} {k : Nat} : diffI a b (k + 1) = if diffB a b k = true then diffI a b k ++ [natI k] else diffI a b k:=by
 unfold diffI
 rw [List.range_succ,List.filter_append,List.map_append]
 by_cases h : diffB a b k = true
 · rw [if_pos h];simp [h]
 · rw [if_neg h];simp [h]
theorem diffI_len {a b : List (El .u8)} {k : Nat} : (diffI a b k).length ≤ k:=by
 unfold diffI
 rw [List.length_map]
 exact Nat.le_trans (List.length_filter_le _ _) (by rw [List.length_range];exact Nat.le_refl _)
theorem row_growI {t : Ty} {l : List (El t)} {e : El t} : List.take (l.length + (List.take 1 (List.drop 0 [e])).length) (List.take l.length l ++ List.take 1 (List.drop 0 [e])) = l ++ [e]:=by
 rw [show List.take 1 (List.drop 0 [e]) = [e] from rfl,List.take_length,List.take_of_length_le (by rw [List.length_append];simp)]
theorem turned_api (a b : Chunk) (ha : OkC a) (hb9 : OkC b) (hl : b.cells.length ≤ a.cells.length) (h64 : b.cells.length ≤ 1000) : Api Tryz.prog 161 [chunkV a,chunkV b] (.tup [.vec .i64 (turnS a b).1,bol (turnS a b).2]):=by
 have h2:=eqHeaps_api a.heaps b.heaps ha.nh
 have h3:=eqBoxesT_api a.boxes b.boxes ha.nb ha.bags
 unfold turnS
 generalize eqv a.heaps b.heaps = e2 at *
 generalize eqv a.boxes b.boxes = e3 at *
 cases e2 with
 | false =>
   rw [Bool.false_and,if_neg (by simp)]
   refine Api.of_fin cfg_ok Tryz.func161 rfl (nt:=44) rfl rfl ?_
   conv=>whnf
   repeat' (first|exact trivial|((first|refine kL ?_|(refine ⟨fun hb=>?_,fun hb=>?_⟩<;>(try simp only [nrm] at hb)<;>(try (first|(exfalso;omega)|contradiction|exact kB hb)))|refine kA h2 ?_|refine kD h2 ?_|refine kA h3 ?_|refine kD h3 ?_|refine kW cfg_ok ?_|refine kC ?_|refine bdA ?_|refine bd2 ?_|refine bdR ?_|refine bdL ?_)<;>(conv=>whnf))|(refine And.intro ?_ ?_;rotate_left;(conv=>whnf);rotate_right))
 | true =>
 cases e3 with
 | false =>
   rw [Bool.true_and,if_neg (by simp)]
   refine Api.of_fin cfg_ok Tryz.func161 rfl (nt:=44) rfl rfl ?_
   conv=>whnf
   repeat' (first|exact trivial|((first|refine kL ?_|(refine ⟨fun hb=>?_,fun hb=>?_⟩<;>(try simp only [nrm] at hb)<;>(try (first|(exfalso;omega)|contradiction|exact kB hb)))|refine kA h2 ?_|refine kD h2 ?_|refine kA h3 ?_|refine kD h3 ?_|refine kW cfg_ok ?_|refine kC ?_|refine bdA ?_|refine bd2 ?_|refine bdR ?_|refine bdL ?_)<;>(conv=>whnf))|(refine And.intro ?_ ?_;rotate_left;(conv=>whnf);rotate_right))
 | true =>
   rw [Bool.true_and,if_pos rfl]
   refine Api.of_fin cfg_ok Tryz.func161 rfl (nt:=44) rfl rfl ?_
   conv=>whnf
   repeat' (first|exact trivial|((first|refine kL ?_|(refine ⟨fun hb=>?_,fun hb=>?_⟩<;>(try simp only [nrm] at hb)<;>(try (first|(exfalso;omega)|contradiction|exact kB hb)))|refine kA h2 ?_|refine kD h2 ?_|refine kA h3 ?_|refine kD h3 ?_|refine kW cfg_ok ?_|refine kC ?_|refine bdA ?_|refine bd2 ?_|refine bdR ?_|refine bdL ?_)<;>(conv=>whnf))|(refine And.intro ?_ ?_;rotate_left;(conv=>whnf);rotate_right))
   refine Runs.loopS cfg_ok (σ:=Nat) [2,7,26,27,28] (fun k=>[.ptr 4 0,.own .i64 87 0 (diffI a.cells b.cells k).length none,.vec .u8 b.cells,i64 b.cells.length,i64 k]) (fun k=>[(4,.box (chunkC a)),(87,.row .i64 (diffI a.cells b.cells k))])
     (fun k=>k ≤ b.cells.length) (fun k=>b.cells.length - k) 0 (by omega) ?_ ?_
   · conv=>whnf
     repeat' (first|exact trivial|((first|refine kL ?_|(refine ⟨fun hb=>?_,fun hb=>?_⟩<;>(try simp only [nrm] at hb)<;>(try (first|(exfalso;omega)|contradiction|exact kB hb)))|refine kW cfg_ok ?_|refine kC ?_|refine bdA ?_|refine bd2 ?_|refine bdR ?_|refine bdL ?_)<;>(conv=>whnf))|(refine And.intro ?_ ?_;rotate_left;(conv=>whnf);rotate_right))
     all_goals rfl
   · intro k hk
     by_cases hlt : k < b.cells.length
     · have hnx:=diffI_next (a:=a.cells) (b:=b.cells) (k:=k)
       have hln:=diffI_len (a:=a.cells) (b:=b.cells) (k:=k)
       by_cases he : @Eq Int (elt .u8 a.cells (k : Int).toNat) (elt .u8 b.cells (k : Int).toNat)
       · rw [if_neg (show ¬ diffB a.cells b.cells k = true by unfold diffB;rw [decide_eq_true_eq];exact not_not_intro he)] at hnx
         conv=>whnf
         repeat' (first|exact trivial|((first|refine kL ?_|(refine ⟨fun hb=>?_,fun hb=>?_⟩<;>(try simp only [nrm] at hb)<;>(try (first|(exfalso;omega)|contradiction|exact kB hb)))|refine kW cfg_ok ?_|refine kC ?_|refine bdA ?_|refine bd2 ?_|refine bdR ?_|refine bdL ?_)<;>(conv=>whnf))|(refine And.intro ?_ ?_;rotate_left;(conv=>whnf);rotate_right))
         all_goals
           refine .to (k + 1) hlt (by omega) ?_
           conv=>whnf
           repeat' (first|exact trivial|((first|refine kL ?_|(refine ⟨fun hb=>?_,fun hb=>?_⟩<;>(try simp only [nrm] at hb)<;>(try (first|(exfalso;omega)|contradiction|exact kB hb)))|refine kW cfg_ok ?_|refine kC ?_|refine bdA ?_|refine bd2 ?_|refine bdR ?_|refine bdL ?_)<;>(conv=>whnf))|(refine And.intro ?_ ?_;rotate_left;(conv=>whnf);rotate_right))
         all_goals (try rw [hnx])
         all_goals first|rfl|exact List.take_length|exact List.length_append.symm|exact row_growI (t:=.i64) (e:=natI k)
       · rw [if_pos (show diffB a.cells b.cells k = true by unfold diffB;rw [decide_eq_true_eq];exact he)] at hnx
         conv=>whnf
         repeat' (first|exact trivial|((first|refine kL ?_|(refine ⟨fun hb=>?_,fun hb=>?_⟩<;>(try simp only [nrm] at hb)<;>(try (first|(exfalso;omega)|contradiction|exact kB hb)))|refine kW cfg_ok ?_|refine kC ?_|refine bdA ?_|refine bd2 ?_|refine bdR ?_|refine bdL ?_)<;>(conv=>whnf))|(refine And.intro ?_ ?_;rotate_left;(conv=>whnf);rotate_right))
         all_goals
           refine .to (k + 1) hlt (by omega) ?_
           conv=>whnf
           repeat' (first|exact trivial|((first|refine kL ?_|(refine ⟨fun hb=>?_,fun hb=>?_⟩<;>(try simp only [nrm] at hb)<;>(try (first|(exfalso;omega)|contradiction|exact kB hb)))|refine kW cfg_ok ?_|refine kC ?_|refine bdA ?_|refine bd2 ?_|refine bdR ?_|refine bdL ?_)<;>(conv=>whnf))|(refine And.intro ?_ ?_;rotate_left;(conv=>whnf);rotate_right))
         all_goals (try rw [hnx])
         all_goals first|rfl|exact List.take_length|exact List.length_append.symm|exact row_growI (t:=.i64) (e:=natI k)
     · obtain rfl : k = b.cells.length:=by omega
       conv=>whnf
       repeat' (first|exact trivial|((first|refine kL ?_|(refine ⟨fun hb=>?_,fun hb=>?_⟩<;>(try simp only [nrm] at hb)<;>(try (first|(exfalso;omega)|contradiction|exact kB hb)))|refine kW cfg_ok ?_|refine kC ?_|refine bdA ?_|refine bd2 ?_|refine bdR ?_|refine bdL ?_)<;>(conv=>whnf))|(refine And.intro ?_ ?_;rotate_left;(conv=>whnf);rotate_right))
       all_goals
         show List.take (diffI a.cells b.cells b.cells.length).length (diffI a.cells b.cells b.cells.length) = _
         exact List.take_length
theorem find1_ev (c : Chunk) (x y : Int) : Ev1 Tryz.prog 160 [.agg (cells .chunk c),.ptr 0 0,.ptr 2 0] [(0,.box [i64 x]),(2,.box [i64 y])] (bol (hereC x y c)) [(0,.box [i64 x]),(2,.box [i64 y])]:=by
 refine Ev1.of_fin cfg_ok Tryz.func160 rfl (nt:=12) rfl rfl rfl ?_
 conv=>whnf
 repeat' (first|exact trivial|((first|refine kL ?_|(refine ⟨fun hb=>?_,fun hb=>?_⟩<;>(try simp only [nrm] at hb)<;>(try (first|(exfalso;omega)|contradiction|exact kB hb)))|refine kW cfg_ok ?_|refine kC ?_|refine bdA ?_|refine bd2 ?_|refine bdR ?_|refine bdL ?_)<;>(conv=>whnf))|(refine And.intro ?_ ?_;rotate_left;(conv=>whnf);rotate_right))
 all_goals (refine congrArg Value.bool ?_;rw [Bool.eq_iff_iff];simp only [hereC,Bool.and_eq_true,Bool.or_eq_true,Bool.not_eq_true',Bool.and_eq_false_iff,Bool.or_eq_false_iff,decide_eq_true_eq,decide_eq_false_iff_not,beq_iff_eq,beq_eq_false_iff_ne,bne_iff_ne,ne_eq,Bool.false_eq_true,Int.toNat_natCast,eq_self,iff_true,true_iff,iff_false,false_iff,Bool.true_eq_false,not_and,Decidable.not_not,not_true_eq_false,not_false_eq_true];(first|done|omega|(simp_all;done)|(simp_all;omega)))
theorem vnothing_api (v : Viw) (hv : OkV v) : Api Tryz.prog 159 [viewV v] (bol (nothingB v)):=by
 have h1:=api_weak (vsame_api v emptyV hv) (.cons (Le.refl _) (.cons (Le.agg (.cons (Le.refl _) (.cons (Le.refl _) (.cons (Le.refl _) (.cons (Le.refl _) (.cons (Le.nil _) (.cons (Le.refl _) (.cons (Le.nil _) (.cons (Le.ff rfl) (.cons (Le.nil _) (.cons (Le.nil _) .nil))))))))))) .nil))
 unfold nothingB
 refine Api.of_fin cfg_ok Tryz.func159 rfl (nt:=5) rfl rfl ?_
 conv=>whnf
 repeat' (first|exact trivial|((first|refine kL ?_|(refine ⟨fun hb=>?_,fun hb=>?_⟩<;>(try simp only [nrm] at hb)<;>(try (first|(exfalso;omega)|contradiction|exact kB hb)))|refine kA h1 ?_|refine kD h1 ?_|refine kW cfg_ok ?_|refine kC ?_|refine bdA ?_|refine bd2 ?_|refine bdR ?_|refine bdL ?_)<;>(conv=>whnf))|(refine And.intro ?_ ?_;rotate_left;(conv=>whnf);rotate_right))
theorem vbase_api (v : Viw) (hv : OkV v) : Api Tryz.prog 95 [viewV v] (bol (baseB v)):=by
 have h1:=vnothing_api v hv
 have h2:=vright_api v hv
 unfold baseB
 generalize nothingB v = n at *
 generalize rightV v = r at *
 cases n<;>cases r
 all_goals
   refine Api.of_fin cfg_ok Tryz.func95 rfl (nt:=8) rfl rfl ?_
   conv=>whnf
   repeat' (first|exact trivial|((first|refine kL ?_|(refine ⟨fun hb=>?_,fun hb=>?_⟩<;>(try simp only [nrm] at hb)<;>(try (first|(exfalso;omega)|contradiction|exact kB hb)))|refine kA h1 ?_|refine kD h1 ?_|refine kA h2 ?_|refine kD h2 ?_|refine kW cfg_ok ?_|refine kC ?_|refine bdA ?_|refine bd2 ?_|refine bdR ?_|refine bdL ?_)<;>(conv=>whnf))|(refine And.intro ?_ ?_;rotate_left;(conv=>whnf);rotate_right))
open Go Go.RowKit Eng
theorem le40 {z : Int} (h : z ≤ 1099511627776) : z ≤ (B40 : Nat):=h
theorem elt_setI {t : Ty} {l : List (El t)} {i k : Nat} {x : El t} (h : k < l.length) : elt t (l.set i x) k = if i = k then x else elt t l k:=by
 have h1:=elt_get t (l.set i x) k (by rw [List.length_set];exact h)
 rw [List.getElem?_set] at h1
 by_cases hik : i = k
 · rw [if_pos hik,if_pos (by rw [hik];exact h)] at h1
   rw [if_pos hik]
   exact (Option.some.inj h1).symm
 · rw [if_neg hik,elt_get t l k h] at h1
   rw [if_neg hik]
   exact (Option.some.inj h1).symm
theorem setAll_len (c : List Int) : ∀ (l : List Int) (w : List Int),(setAll c w l).length = w.length
 | [],_=>rfl
 | i :: t,w=>by
   show (setAll c (w.set i.toNat (elt .u8 c i.toNat)) t).length = _
   rw [setAll_len c t,List.length_set]
theorem setAll_elt (c : List (El .u8)) : ∀ (l : List Int) (w : List (El .u8)) (k : Nat),(∀ i ∈ l,(0 : Int) ≤ i) → k < w.length → elt .u8 (setAll c w l) k = if (k : Int) ∈ l then elt .u8 c k else elt .u8 w k
 | [],w,k,_,_=>by rw [if_neg (by simp)];rfl
 | i :: t,w,k,h,hk=>by
   show elt .u8 (setAll c (w.set i.toNat (elt .u8 c i.toNat)) t) k = _
   have h0 : (0 : Int) ≤ i:=h i (List.mem_cons_self ..)
   rw [setAll_elt c t (w.set i.toNat (elt .u8 c i.toNat)) k (fun j hj=>h j (List.mem_cons_of_mem _ hj)) (by rw [List.length_set];exact hk),elt_setI hk]
   by_cases h1 : (k : Int) ∈ t
   · rw [if_pos h1,if_pos (List.mem_cons_of_mem _ h1)]
   · rw [if_neg h1]
     by_cases h2 : i.toNat = k
     · have h3 : i = (k : Int):=by have:=h0;omega
       rw [if_pos h2,if_pos (by rw [h3];exact List.mem_cons_self ..),h2]
     · rw [if_neg h2,if_neg]
       intro h4
       rcases List.mem_cons.1 h4 with h5|h5
       · exact h2 (by have : ((k : Nat) : Int) = i:=h5;omega)
       · exact h1 h5
theorem mem_diffI {a b : List (El .u8)} {n : Nat} {i : Int} : i ∈ diffI a b n ↔ ∃ k : Nat,i = (k : Int) ∧ k < n ∧ ¬ @Eq Int (elt .u8 a k) (elt .u8 b k):=by
 unfold diffI
 rw [List.mem_map]
 constructor
 · rintro ⟨k,hk,rfl⟩
   rw [List.mem_filter,List.mem_range] at hk
   exact ⟨k,rfl,hk.1,of_decide_eq_true hk.2⟩
 · rintro ⟨k,rfl,h1,h2⟩
   exact ⟨k,List.mem_filter.2 ⟨List.mem_range.2 h1,decide_eq_true h2⟩,rfl⟩
theorem setAll_diff {a b : List (El .u8)} (h : a.length = b.length) : setAll b a (diffI a b b.length) = b:=by
 refine elt_ext (tt:=.u8) (by rw [setAll_len,h]) fun k hk=>?_
 rw [setAll_len] at hk
 rw [setAll_elt b _ a k (fun i hi=>by obtain ⟨j,rfl,_⟩:=mem_diffI.1 hi;show (0 : Int) ≤ (j : Int);omega) hk]
 by_cases h1 : ((k : Nat) : Int) ∈ diffI a b b.length
 · rw [if_pos h1]
 · rw [if_neg h1]
   by_cases h2 : @Eq Int (elt .u8 a k) (elt .u8 b k)
   · exact h2
   · exact absurd (mem_diffI.2 ⟨k,rfl,by omega,h2⟩) h1
theorem findV_spec {v : Viw} {x y : Int} (h : (findV v x y).2 = true) : (findV v x y).1 ∈ v.chunks ∧ (findV v x y).1.x = x ∧ (findV v x y).1.y = y:=by
 unfold findV at h ⊢
 by_cases h1 : idxGo (hereC x y) v.chunks 0 < 0
 · rw [if_pos h1] at h;cases h
 · rw [if_neg h1]
   have h2:=idxGo_at (t:=.chunk) (hereC x y) v.chunks (by omega)
   have h3:=idxGo_lt (hereC x y) v.chunks 0
   simp only [hereC,Bool.and_eq_true,decide_eq_true_eq] at h2
   exact ⟨elt_mem (t:=.chunk) (by omega),h2.1,h2.2⟩
theorem findV_had {v : Viw} {x y : Int} : (findV v x y).2 = v.chunks.any (hereC x y):=by
 rw [← idxGo_any (hereC x y) v.chunks 0]
 unfold findV
 by_cases h1 : idxGo (hereC x y) v.chunks 0 < 0
 · rw [if_pos h1];exact (decide_eq_false (by omega)).symm
 · rw [if_neg h1];exact (decide_eq_true (by omega)).symm
theorem bytesC_le {c : Chunk} (hr : rightB c = true) (hi : ∀ h ∈ c.heaps,0 ≤ h.slot.item ∧ h.slot.item ≤ 255) (hj : ∀ x ∈ c.boxes,bagGood x.bag) : (bytesC c).length ≤ 5000 ∧ 64 ≤ (bytesC c).length:=by
 have hu : ∀ z : Int,z < 1000 → (uintL z.toNat).length ≤ 2:=by
   intro z hz
   unfold uintL uintF
   split
   · simp
   · have : z.toNat / 128 < 128:=by omega
     rw [List.length_cons,uintF,if_pos this];simp
 have hRC:=rightC_of hr
 have hlen:=hRC.len
 have hH:=hRC.head
 simp only [headB,Bool.and_eq_true,decide_eq_true_eq] at hH
 obtain ⟨hx0,hy0,hx1,hy1,-,hh32⟩:=hH
 obtain ⟨hbl,hbx⟩:=rightGo_boxes _ _ _ hRC.go
 have f1:=flatMap_len heapL 6 c.heaps fun h hm=>by
   have h1:=okN_heap (any_false hRC.heaps hm)
   have h2:=hi h hm
   have a1:=hu h.cell (by omega)
   have a2:=hu h.slot.item (by omega)
   have a3:=hu h.slot.n (by omega)
   unfold heapL putY
   simp only [List.flatMap_cons,List.flatMap_nil,List.append_nil,List.length_append]
   omega
 have f2:=flatMap_len boxL 24 c.boxes fun x hx=>by
   have f3:=flatMap_len slotL 4 x.bag fun s hs=>by
     have h1:=hj x hx s hs
     have h2:=okN_slot (any_false (by simpa only [bagOk,Bool.not_eq_true'] using (hbx x hx).2) hs)
     have a2:=hu s.item (by omega)
     have a3:=hu s.n (by omega)
     unfold slotL putY
     simp only [List.flatMap_cons,List.flatMap_nil,List.append_nil,List.length_append]
     omega
   have:=(hbx x hx).1
   unfold boxL
   omega
 have f4 : (putY [c.x,c.y]).length ≤ 20:=putY_len _
 have f5 : (putY [(c.heaps.length : Int)]).length ≤ 10:=putY_len _
 unfold bytesC
 simp only [List.length_append]
 omega
structure GoodC (c : Chunk) : Prop where
 right : rightB c = true
 cells : okU8 c.cells
 items : ∀ h ∈ c.heaps,0 ≤ h.slot.item ∧ h.slot.item ≤ 255
 bags : ∀ x ∈ c.boxes,bagGood x.bag
theorem GoodC.read {c : Chunk} (h : GoodC c) : readC (bytesC c) = (c,0):=readC_bytes (u8_bytesC h.right h.cells h.items h.bags) h.right h.items h.bags
theorem GoodC.le {c : Chunk} (h : GoodC c) : (bytesC c).length ≤ 5000 ∧ 64 ≤ (bytesC c).length:=bytesC_le h.right h.items h.bags
theorem GoodC.len {c : Chunk} (h : GoodC c) : c.cells.length = 64:=by have:=(rightC_of h.right).len;omega
theorem GoodC.at {c : Chunk} (h : GoodC c) : 0 ≤ c.x ∧ 0 ≤ c.y ∧ c.x < 16 ∧ c.y < 16:=by
 have hH:=(rightC_of h.right).head
 simp only [headB,Bool.and_eq_true,decide_eq_true_eq] at hH
 omega
theorem whole_read {b : List Int} (hb : okU8 b) {c : Chunk} (hg : GoodC c) {s : Rd} {r : List Int} (hs : s.bad = false) (hd : b.drop s.pos = (uintL (bytesC c).length ++ bytesC c) ++ r) : blobS b c.x c.y s = (c,⟨s.pos + (uintL (bytesC c).length ++ bytesC c).length,false⟩):=by
 have h1:=(spec_blob hb (most:=5000) (by decide)).write s (bytesC c) r hs hg.le.1 hd
 unfold blobS
 rw [if_neg (by rw [hs];simp),h1]
 dsimp only
 rw [hg.read,if_neg (by simp)]
theorem form_read {b : List Int} (hb : okU8 b) {v v' : Viw} {c : Chunk} (hg : GoodC c) (hv : ∀ k ∈ v.chunks,k.cells.length = 64) {s : Rd} {r : List Int} (hs : s.bad = false) (hd : b.drop s.pos = formY (findV v c.x c.y) c ++ r) :
   (v' = v → restR b (findV v' c.x c.y) c.x c.y (numI b 2 s).1 (numI b 2 s).2 = (c,⟨s.pos + (formY (findV v c.x c.y) c).length,false⟩)) ∧
   ((restR b (findV v' c.x c.y) c.x c.y (numI b 2 s).1 (numI b 2 s).2).2.bad = true ∨ (((restR b (findV v' c.x c.y) c.x c.y (numI b 2 s).1 (numI b 2 s).2).1.x = c.x ∧ (restR b (findV v' c.x c.y) c.x c.y (numI b 2 s).1 (numI b 2 s).2).1.y = c.y ∧ ((findV v c.x c.y).2 = false → (restR b (findV v' c.x c.y) c.x c.y (numI b 2 s).1 (numI b 2 s).2).1 = c)) ∧ (restR b (findV v' c.x c.y) c.x c.y (numI b 2 s).1 (numI b 2 s).2).2 = ⟨s.pos + (formY (findV v c.x c.y) c).length,false⟩)):=by
 have hW : b.drop s.pos = wholeY c ++ r → restR b (findV v' c.x c.y) c.x c.y (numI b 2 s).1 (numI b 2 s).2 = (c,⟨s.pos + (wholeY c).length,false⟩):=by
   intro hd
   unfold wholeY at hd ⊢
   rw [put_one,List.append_assoc] at hd
   have h1:=numI_write (most:=2) hs hd (by omega) (by decide)
   have h2:=whole_read hb hg (s:=⟨s.pos + (uintL (2 : Int).toNat).length,false⟩) rfl (drop_app hd)
   rw [h1]
   unfold restR
   rw [if_pos rfl,h2,put_one]
   refine Prod.ext rfl (congrArg (fun p=>Rd.mk p false) ?_)
   show s.pos + (uintL (2 : Int).toNat).length + _ = _
   simp only [List.length_append]
   omega
 by_cases c1 : ((findV v c.x c.y).2 && (turnS (findV v c.x c.y).1 c).2) = true
 · rw [Bool.and_eq_true] at c1
   have hf:=findV_spec c1.1
   have hlen:=hv _ hf.1
   have hcl:=hg.len
   have e1 : formY (findV v c.x c.y) c = (if (turnS (findV v c.x c.y).1 c).1.length = 0 then putY [0] else if (turnS (findV v c.x c.y).1 c).1.length ≤ 16 then cellsY c (turnS (findV v c.x c.y).1 c).1 else wholeY c):=if_pos (by rw [c1.1,c1.2];rfl)
   have hT : (findV v c.x c.y).1.heaps = c.heaps ∧ (findV v c.x c.y).1.boxes = c.boxes ∧ (turnS (findV v c.x c.y).1 c).1 = diffI (findV v c.x c.y).1.cells c.cells c.cells.length:=by
     have h2:=c1.2
     unfold turnS at h2 ⊢
     by_cases h3 : (eqv (findV v c.x c.y).1.heaps c.heaps && eqv (findV v c.x c.y).1.boxes c.boxes) = true
     · rw [if_pos h3]
       rw [Bool.and_eq_true,eqv_iff,eqv_iff] at h3
       exact ⟨h3.1,h3.2,rfl⟩
     · rw [if_neg h3] at h2;cases h2
   obtain ⟨t1,t2,t3⟩:=hT
   have hset:=setAll_diff (a:=(findV v c.x c.y).1.cells) (b:=c.cells) (by rw [hlen,hcl])
   have hwas : ∀ l,l = c.cells → ({ (findV v c.x c.y).1 with cells:=l } : Chunk) = c:=by
     intro l hl
     obtain ⟨x,y,cs,hh,bb⟩:=c
     obtain ⟨_,f2,f3⟩:=hf
     dsimp only at *
     rw [f2,f3,t1,t2,hl]
   rw [t3] at e1
   by_cases c2 : (diffI (findV v c.x c.y).1.cells c.cells c.cells.length).length = 0
   · rw [if_pos c2] at e1
     rw [e1] at hd ⊢
     rw [put_one] at hd
     have h1:=numI_write (most:=2) hs hd (by omega) (by decide)
     rw [h1]
     have h0 : setAll c.cells (findV v c.x c.y).1.cells (diffI (findV v c.x c.y).1.cells c.cells c.cells.length) = (findV v c.x c.y).1.cells:=by
       rw [List.length_eq_zero_iff.1 c2];rfl
     have hsame : (findV v c.x c.y).1 = c:=hwas _ (by rw [← h0];exact hset)
     unfold restR
     rw [if_neg (by omega)]
     constructor
     · rintro rfl
       rw [if_neg (by rw [c1.1];simp),if_neg (by omega),hsame,put_one]
     · by_cases c3 : (findV v' c.x c.y).2 = false
       · left;rw [if_pos c3]
       · have hf':=findV_spec (by simpa using c3 : (findV v' c.x c.y).2 = true)
         right
         rw [if_neg c3,if_neg (by omega),put_one]
         exact ⟨⟨hf'.2.1,hf'.2.2,fun h=>by rw [c1.1] at h;cases h⟩,rfl⟩
   · rw [if_neg c2] at e1
     by_cases c4 : (diffI (findV v c.x c.y).1.cells c.cells c.cells.length).length ≤ 16
     · rw [if_pos c4] at e1
       rw [e1] at hd ⊢
       generalize hD : diffI (findV v c.x c.y).1.cells c.cells c.cells.length = D at *
       have hDm : ∀ i : Int,i ∈ D → 0 ≤ i ∧ i ≤ 63 ∧ (0 : Int) ≤ elt .u8 c.cells i.toNat ∧ (elt .u8 c.cells i.toNat : Int) ≤ 255:=by
         intro i hi
         rw [← hD] at hi
         obtain ⟨k,rfl,h1,h2⟩:=mem_diffI.1 hi
         have h5:=hg.cells _ (elt_mem (t:=.u8) (l:=c.cells) (i:=k) h1)
         refine ⟨by omega,by omega,?_⟩
         rw [Int.toNat_natCast];exact h5
       have hd2:=hd
       unfold cellsY at hd2
       rw [put_cons,put_one,List.append_assoc,List.append_assoc] at hd2
       have h1:=numI_write (most:=2) hs hd2 (by omega) (by decide)
       have h2:=numI_write (b:=b) (s:=⟨s.pos + (uintL (1 : Int).toNat).length,false⟩) (most:=16) (z:=(D.length : Int)) rfl (drop_app hd2) (by omega) (by decide)
       have h3:=fun w=>cellsR_write (b:=b) c D ⟨s.pos + (uintL (1 : Int).toNat).length + (uintL (D.length : Int).toNat).length,false⟩ r w rfl hDm (drop_app (drop_app hd2))
       have hpos : s.pos + (uintL (1 : Int).toNat).length + (uintL (D.length : Int).toNat).length + (D.flatMap (cellY c)).length = s.pos + (cellsY c D).length:=by
         unfold cellsY
         rw [put_cons,put_one]
         simp only [List.length_append]
         omega
       rw [hpos] at h3
       rw [h1]
       unfold restR
       dsimp only
       rw [if_neg (by omega),h2]
       dsimp only
       simp only [Int.toNat_natCast] at h3 ⊢
       rw [h3]
       constructor
       · rintro rfl
         rw [if_neg (by rw [c1.1];simp),if_pos trivial]
         exact Prod.ext (hwas _ hset) rfl
       · by_cases c3 : (findV v' c.x c.y).2 = false
         · left;rw [if_pos c3]
         · have hf':=findV_spec (by simpa using c3 : (findV v' c.x c.y).2 = true)
           right
           rw [if_neg c3,if_pos trivial]
           exact ⟨⟨hf'.2.1,hf'.2.2,fun h=>by rw [c1.1] at h;cases h⟩,rfl⟩
     · rw [if_neg c4] at e1
       rw [e1] at hd ⊢
       rw [hW hd]
       exact ⟨fun _=>rfl,.inr ⟨⟨rfl,rfl,fun _=>rfl⟩,rfl⟩⟩
 · have e1 : formY (findV v c.x c.y) c = wholeY c:=if_neg c1
   rw [e1] at hd ⊢
   rw [hW hd]
   exact ⟨fun _=>rfl,.inr ⟨⟨rfl,rfl,fun _=>rfl⟩,rfl⟩⟩
theorem chunk_read {b : List Int} (hb : okU8 b) {v v' : Viw} {c : Chunk} (hg : GoodC c) (hv : ∀ k ∈ v.chunks,k.cells.length = 64) {s : Rd} {r : List Int} (hs : s.bad = false) (hd : b.drop s.pos = chunkY v c ++ r) :
   (v' = v → chunkRS b v' s = (c,⟨s.pos + (chunkY v c).length,false⟩)) ∧
   ((chunkRS b v' s).2.bad = true ∨ (((chunkRS b v' s).1.x = c.x ∧ (chunkRS b v' s).1.y = c.y ∧ ((findV v c.x c.y).2 = false → (chunkRS b v' s).1 = c)) ∧ (chunkRS b v' s).2 = ⟨s.pos + (chunkY v c).length,false⟩)):=by
 have hat:=hg.at
 have hd2:=hd
 unfold chunkY at hd2
 rw [List.append_assoc] at hd2
 obtain ⟨h1,h2,h3⟩:=two_write (b:=b) (m:=B40) (k:=B40) hs hd2 ⟨hat.1,le40 (by omega)⟩ ⟨hat.2.1,le40 (by omega)⟩ (by decide) (by decide)
 have h4:=form_read hb hg hv (v:=v) (v':=v') (s:=⟨s.pos + (putY [c.x,c.y]).length,false⟩) (r:=r) rfl (drop_app hd2)
 have e : chunkRS b v' s = restR b (findV v' c.x c.y) c.x c.y (numI b 2 ⟨s.pos + (putY [c.x,c.y]).length,false⟩).1 (numI b 2 ⟨s.pos + (putY [c.x,c.y]).length,false⟩).2:=by
   unfold chunkRS
   dsimp only
   rw [h3,h1]
 rw [e,show s.pos + (chunkY v c).length = (⟨s.pos + (putY [c.x,c.y]).length,false⟩ : Rd).pos + (formY (findV v c.x c.y) c).length by unfold chunkY;rw [List.length_append];exact (Nat.add_assoc ..).symm]
 exact h4
open Go Go.RowKit Eng
theorem goodC_right {c : Chunk} (h : rightB c = true) : GoodC c:=by
 have ho:=okC_right h
 refine ⟨h,ho.cells,ho.heaps,fun x hx s hs=>?_⟩
 have h1:=(ho.boxes x hx).1 s hs
 have h2:=okN_slot (any_false (by simpa only [bagOk,Bool.not_eq_true'] using (right_bag h hx).2) hs)
 exact ⟨h1,by omega,by omega⟩
structure RightP (v : Viw) : Prop where
 tick : 0 ≤ v.tick ∧ v.tick ≤ 1099511627776
 id : 0 ≤ v.me.id ∧ v.me.id ≤ 1073741824
 x : 0 ≤ v.me.x ∧ v.me.x ≤ 127
 y : 0 ≤ v.me.y ∧ v.me.y ≤ 127
 bag : v.me.bag.length = 8
 bagS : ∀ s ∈ v.me.bag,(0 ≤ s.item ∧ s.item ≤ 255) ∧ 0 ≤ s.n ∧ s.n ≤ 16
 w : -1 ≤ v.me.wth ∧ v.me.wth ≤ 1073741824
 off : (v.me.wth = -1 ∧ v.me.offer = [] ∧ v.me.agrees = false) ∨ (0 ≤ v.me.wth ∧ v.me.offer.length = 8)
 offS : ∀ s ∈ v.me.offer,(0 ≤ s.item ∧ s.item ≤ 255) ∧ 0 ≤ s.n ∧ s.n ≤ 16
 nc : v.chunks.length ≤ 49
 no : v.others.length ≤ 32
 chunks : ∀ c ∈ v.chunks,rightB c = true
 others : ∀ s ∈ v.others,(0 ≤ s.id ∧ s.id ≤ 1073741824) ∧ (0 ≤ s.x ∧ s.x ≤ 127) ∧ 0 ≤ s.y ∧ s.y ≤ 127
theorem rangeAll {α : Ty} {l : List (El α)} {f : Nat → Bool} {p : El α → Prop} (h : (List.range l.length).all f = true) (hp : ∀ i,i < l.length → f i = true → p (elt α l i)) : ∀ x ∈ l,p x:=by
 intro x hx
 obtain ⟨i,hi,rfl⟩:=List.getElem_of_mem hx
 have h2:=List.all_eq_true.1 h i (List.mem_range.2 hi)
 have h3:=hp i hi h2
 have h4:=elt_get α l i hi
 rw [List.getElem?_eq_getElem hi] at h4
 rw [Option.some.inj h4];exact h3
theorem rightV_P {v : Viw} (h : rightV v = true) : RightP v:=by
 unfold rightV headV at h
 simp only [Bool.and_eq_true,decide_eq_true_eq] at h
 obtain ⟨⟨⟨h1,h2,h3,h4,h5⟩,h6⟩,h7⟩:=h
 have hs : soundB v.me = true ∧ withinW 16 v.me.x v.me.y = true:=by
   unfold setW at h1
   by_cases q1 : rightW wv16 = false
   · rw [if_pos q1] at h1;cases h1
   · rw [if_neg q1] at h1
     by_cases q2 : soundB v.me = false ∨ withinW wv16.size v.me.x v.me.y = false
     · rw [if_pos q2] at h1;cases h1
     · rw [not_or] at q2
       exact ⟨by simpa using q2.1,by simpa [wv16] using q2.2⟩
 obtain ⟨s1,s2⟩:=hs
 obtain ⟨p1,p2,p3,p4,p5⟩:=sound_parts s1
 have hok:=okP_sound s1
 have hxy : 0 ≤ v.me.x ∧ v.me.x ≤ 127 ∧ 0 ≤ v.me.y ∧ v.me.y ≤ 127:=by
   unfold withinW at s2
   rw [wr8_eq (by omega) (by omega)] at s2
   simp only [Bool.and_eq_true,decide_eq_true_eq] at s2
   omega
 have hb : ∀ l : List Slot,bagOk l = true → (∀ s ∈ l,okSlot s) → ∀ s ∈ l,(0 ≤ s.item ∧ s.item ≤ 255) ∧ 0 ≤ s.n ∧ s.n ≤ 16:=fun l hl ho s hs=>by
   have h2:=okN_slot (any_false (by simpa only [bagOk,Bool.not_eq_true'] using hl) hs)
   exact ⟨ho s hs,by omega,by omega⟩
 refine ⟨⟨h2,h3⟩,⟨p1,p2⟩,by omega,by omega,by omega,hb _ p4 hok.bag,?_,?_,?_,by omega,by omega,?_,?_⟩
 · rcases p5 with ⟨q,_⟩|⟨q1,q2,_⟩<;>omega
 · rcases p5 with ⟨q1,q2,q3⟩|⟨q1,q2,q3,q4,q5⟩
   · exact .inl ⟨q1,q2,q3⟩
   · exact .inr ⟨q1,by omega⟩
 · rcases p5 with ⟨q1,q2,q3⟩|⟨q1,q2,q3,q4,q5⟩
   · rw [q2];simp
   · exact hb _ q5 hok.offer
 · refine rangeAll (α:=.chunk) h6 fun i hi h=>?_
   unfold okCh at h
   rw [Bool.and_eq_true] at h
   exact h.1
 · refine rangeAll (α:=.seen) h7 fun i hi h=>?_
   unfold okOt at h
   rw [decide_eq_true_eq] at h
   omega
theorem base_cells {v : Viw} (h : baseB v = true) : ∀ k ∈ v.chunks,rightB k = true:=by
 unfold baseB nothingB at h
 rw [Bool.or_eq_true,eqv_iff] at h
 rcases h with h|h
 · rw [h];intro k hk;cases hk
 · exact (rightV_P h).chunks
theorem u8_putB {l : List Int} (h : ∀ z ∈ l,z ≤ 1099511627777) : okU8 (putY l):=fun i hi=>by
 obtain ⟨z,hz,hi⟩:=List.mem_flatMap.1 hi
 exact u8_uintF 9 z.toNat (Nat.lt_of_le_of_lt (show z.toNat ≤ 1099511627777 by have:=h z hz;omega) (by decide)) i hi
theorem u8_chunkY {v : Viw} (hv : ∀ k ∈ v.chunks,rightB k = true) {c : Chunk} (h : GoodC c) : okU8 (chunkY v c):=by
 have hat:=h.at
 have hW : okU8 (wholeY c):=by
   unfold wholeY
   refine u8_app (u8_putB (by simp)) (u8_app (u8_uintF 9 _ (Nat.lt_of_le_of_lt h.le.1 (by decide))) (u8_bytesC h.right h.cells h.items h.bags))
 unfold chunkY
 refine u8_app (u8_putB (by simp;omega)) ?_
 unfold formY
 split
 · rename_i c1
   split
   · exact u8_putB (by simp)
   · split
     · rename_i c3
       unfold cellsY
       refine u8_app (u8_putB (by simp;omega)) (u8_flat fun i hi=>?_)
       unfold cellY
       refine u8_putB fun z hz=>?_
       simp only [List.mem_cons,List.not_mem_nil,or_false] at hz
       have hD : i ∈ diffI (findV v c.x c.y).1.cells c.cells c.cells.length:=by
         unfold turnS at hi
         split at hi
         · exact hi
         · cases hi
       obtain ⟨k,rfl,k1,k2⟩:=mem_diffI.1 hD
       have h5 : (0 : Int) ≤ elt .u8 c.cells k ∧ @LE.le Int _ (elt .u8 c.cells k) 255:=h.cells _ (elt_mem (t:=.u8) (l:=c.cells) (i:=k) k1)
       have h6:=h.len
       rcases hz with rfl|rfl
       · omega
       · show @LE.le Int _ (elt .u8 c.cells (k : Int).toNat) _
         rw [Int.toNat_natCast];omega
     · exact hW
 · exact hW
theorem u8_makeY {v n : Viw} (hv : baseB v = true) (hn : rightV n = true) : okU8 (makeY v n):=by
 have h:=rightV_P hn
 have hb:=base_cells hv
 have hS : ∀ l : List Slot,(∀ s ∈ l,(0 ≤ s.item ∧ s.item ≤ 255) ∧ 0 ≤ s.n ∧ s.n ≤ 16) → okU8 (l.flatMap slotL):=fun l hl=>u8_flat fun s hs=>u8_putB (by have:=hl s hs;simp;omega)
 have h1:=h.tick;have h2:=h.id;have h3:=h.x;have h4:=h.y;have h5:=h.w;have h6:=h.nc;have h7:=h.no
 unfold makeY
 refine u8_app (u8_app (u8_app (u8_app (u8_app (u8_app (u8_app (u8_putB (by simp;omega)) (hS _ h.bagS)) (u8_putB ?_)) (hS _ h.offS)) (u8_putB (by simp;omega))) (u8_flat fun c hc=>u8_chunkY hb (goodC_right (h.chunks c hc)))) (u8_putB (by simp;omega))) (u8_flat fun s hs=>u8_putB ?_)
 · have : agI n.me.agrees ≤ 1:=by unfold agI;split<;>omega
   simp;omega
 · have:=h.others s hs
   simp;omega
theorem allM_write {b : List Int} {l : List Slot} (hl : l.length = 8) (h : ∀ s ∈ l,(0 ≤ s.item ∧ s.item ≤ 255) ∧ 0 ≤ s.n ∧ s.n ≤ 16) {s : Rd} {r : List Int} (hs : s.bad = false) (hd : b.drop s.pos = l.flatMap slotL ++ r) : allR (slotM b B40) 8 s = (l,⟨s.pos + (l.flatMap slotL).length,false⟩):=by
 rw [← hl]
 exact all_write l s r hs (fun x hx s r h1 h2=>slotM_write h1 h2 (h x hx).1 ⟨(h x hx).2.1,le40 (by have:=(h x hx).2.2;omega)⟩ (by decide)) hd
structure At (b r : List Int) (s : Rd) : Prop where
 good : s.bad = false
 le : s.pos ≤ b.length
 ahead : b.drop s.pos = r
theorem at_next {b e r : List Int} {s : Rd} (h : At b (e ++ r) s) : At b r ⟨s.pos + e.length,false⟩:=by
 refine ⟨rfl,?_,drop_app h.ahead⟩
 have h1:=congrArg List.length h.ahead
 rw [List.length_drop,List.length_append] at h1
 have:=h.le
 show s.pos + e.length ≤ b.length
 omega
theorem at_end {b : List Int} {s : Rd} (h : At b [] s) : s.bad = false ∧ s.pos = b.length:=by
 have h1:=congrArg List.length h.ahead
 rw [List.length_drop,List.length_nil] at h1
 have:=h.le
 exact ⟨h.good,by omega⟩
theorem numI_at {b r : List Int} {s : Rd} {z : Int} {most : Nat} (h : At b (uintL z.toNat ++ r) s) (hz : 0 ≤ z ∧ z ≤ most) (hm : most < 2 * 128 ^ 9) : (numI b most s).1 = z ∧ At b r (numI b most s).2:=by
 rw [numI_write h.good h.ahead hz hm]
 exact ⟨rfl,at_next h⟩
theorem allM_at {b r : List Int} {l : List Slot} (hl : l.length = 8) (ho : ∀ s ∈ l,(0 ≤ s.item ∧ s.item ≤ 255) ∧ 0 ≤ s.n ∧ s.n ≤ 16) {s : Rd} (h : At b (l.flatMap slotL ++ r) s) : (allR (slotM b B40) 8 s).1 = l ∧ At b r (allR (slotM b B40) 8 s).2:=by
 rw [allM_write hl ho h.good h.ahead]
 exact ⟨rfl,at_next h⟩
def headY (n : Viw) : List Int:=putY [n.tick,n.me.id,n.me.x,n.me.y] ++ n.me.bag.flatMap slotL ++ putY [n.me.wth + 1,agI n.me.agrees] ++ n.me.offer.flatMap slotL ++ putY [(n.chunks.length : Int)]
theorem head_read {v' n : Viw} (hn : RightP n) {b r : List Int} (hd : b = headY n ++ r) :
   (tkK v' b).t.1 = n.tick ∧ (⟨(tkK v' b).id.1,(tkK v' b).x.1,(tkK v' b).y.1,(tkK v' b).bag.1,(tkK v' b).w.1 - 1,(tkK v' b).off.1,decide ((tkK v' b).ag.1 = 1)⟩ : Player) = n.me ∧ (tkK v' b).nc.1 = (n.chunks.length : Int) ∧ At b r (tkK v' b).nc.2:=by
 have h1:=hn.tick;have h2:=hn.id;have h3:=hn.x;have h4:=hn.y;have h5:=hn.w;have h6:=hn.nc
 have hag : 0 ≤ agI n.me.agrees ∧ agI n.me.agrees ≤ (1 : Nat):=by unfold agI;split<;>omega
 have q0 : At b (uintL n.tick.toNat ++ (uintL n.me.id.toNat ++ (uintL n.me.x.toNat ++ (uintL n.me.y.toNat ++ (n.me.bag.flatMap slotL ++ (uintL (n.me.wth + 1).toNat ++ (uintL (agI n.me.agrees).toNat ++ (n.me.offer.flatMap slotL ++ (uintL (n.chunks.length : Int).toNat ++ r))))))))) ⟨0,false⟩:=by
   refine ⟨rfl,Nat.zero_le _,?_⟩
   show b.drop 0 = _
   rw [List.drop_zero,hd]
   unfold headY
   simp only [put_cons,show putY [] = [] from rfl,List.append_nil,List.append_assoc]
 obtain ⟨a1,q1⟩:=numI_at (most:=B40) q0 ⟨h1.1,le40 h1.2⟩ (by decide)
 obtain ⟨a2,q2⟩:=numI_at (most:=B40) q1 ⟨h2.1,le40 (by omega)⟩ (by decide)
 obtain ⟨a3,q3⟩:=numI_at (most:=B40) q2 ⟨h3.1,le40 (by omega)⟩ (by decide)
 obtain ⟨a4,q4⟩:=numI_at (most:=B40) q3 ⟨h4.1,le40 (by omega)⟩ (by decide)
 obtain ⟨a5,q5⟩:=allM_at hn.bag hn.bagS q4
 obtain ⟨a6,q6⟩:=numI_at (most:=B40) q5 ⟨by omega,le40 (by omega)⟩ (by decide)
 obtain ⟨a7,q7⟩:=numI_at (most:=1) q6 hag (by decide)
 have hoff : (tkK v' b).off.1 = n.me.offer ∧ At b (uintL (n.chunks.length : Int).toNat ++ r) (tkK v' b).off.2:=by
   have e : (tkK v' b).off = if 0 ≤ (tkK v' b).w.1 - 1 then allR (slotM b B40) 8 (tkK v' b).ag.2 else ([],(tkK v' b).ag.2):=rfl
   have e2 : (tkK v' b).w.1 = n.me.wth + 1:=a6
   rw [e,e2]
   rcases hn.off with ⟨o1,o2,_⟩|⟨o1,o2⟩
   · rw [if_neg (by omega),o2]
     refine ⟨rfl,?_⟩
     rw [o2] at q7
     exact q7
   · rw [if_pos (by omega)]
     exact allM_at o2 hn.offS q7
 obtain ⟨a9,q9⟩:=numI_at (most:=49) hoff.2 (by omega) (by decide)
 refine ⟨a1,?_,a9,q9⟩
 have e2 : (tkK v' b).w.1 - 1 = n.me.wth:=by rw [show (tkK v' b).w.1 = n.me.wth + 1 from a6];omega
 have e3 : decide ((tkK v' b).ag.1 = 1) = n.me.agrees:=by
   rw [show (tkK v' b).ag.1 = agI n.me.agrees from a7]
   unfold agI
   cases n.me.agrees<;>rfl
 rw [show (tkK v' b).id.1 = n.me.id from a2,show (tkK v' b).x.1 = n.me.x from a3,show (tkK v' b).y.1 = n.me.y from a4,show (tkK v' b).bag.1 = n.me.bag from a5,e2,hoff.1,e3]
theorem all2_self {α : Type} {R : α → α → Prop} (h : ∀ a,R a a) : ∀ l : List α,All2 R l l
 | []=>.nil
 | a :: l=>.cons (h a) (all2_self h l)
theorem make_split (v n : Viw) : makeY v n = headY n ++ (n.chunks.flatMap (chunkY v) ++ (uintL (n.others.length : Int).toNat ++ (n.others.flatMap seenY ++ []))):=by
 unfold makeY headY
 simp only [put_cons,show putY [] = [] from rfl,List.append_nil,List.append_assoc]
theorem take_sync {v v' n : Viw} (hn : rightV n = true) (hv : baseB v = true) : ((tkK v' (makeY v n)).os.2.bad = true ∧ ¬ v' = v) ∨ ((tkK v' (makeY v n)).os.2.bad = false ∧ (tkK v' (makeY v n)).os.2.pos = (makeY v n).length ∧ (takeN v' (makeY v n)).tick = n.tick ∧ (takeN v' (makeY v n)).me = n.me ∧ (takeN v' (makeY v n)).others = n.others ∧ (v' = v → (takeN v' (makeY v n)).chunks = n.chunks) ∧
   All2 (fun c k : Chunk=>k.x = c.x ∧ k.y = c.y ∧ ((findV v c.x c.y).2 = false → k = c)) n.chunks (takeN v' (makeY v n)).chunks):=by
 have hP:=rightV_P hn
 have h8:=u8_makeY hv hn
 have hcl : ∀ k ∈ v.chunks,k.cells.length = 64:=fun k hk=>by have:=right_len (base_cells hv k hk);omega
 have hsp:=make_split v n
 generalize makeY v n = b at *
 obtain ⟨a1,a2,a3,q⟩:=head_read (v':=v') hP hsp
 have hcs : (tkK v' b).cs = manyR (chunkRS b v') n.chunks.length (tkK v' b).nc.2:=by
   show manyR (chunkRS b v') (tkK v' b).nc.1.toNat (tkK v' b).nc.2 = _
   rw [a3,Int.toNat_natCast]
 have hdead : (tkK v' b).cs.2.bad = true → (tkK v' b).os.2.bad = true:=fun h=>by
   have e : (tkK v' b).os = manyR (seenR b) (tkK v' b).no.1.toNat (tkK v' b).no.2:=rfl
   have e2 : (tkK v' b).no.2.bad = true:=numI_stays h
   rw [e,many_stays _ _ e2];exact e2
 have hlive : At b (uintL (n.others.length : Int).toNat ++ (n.others.flatMap seenY ++ [])) (tkK v' b).cs.2 → (tkK v' b).os.2.bad = false ∧ (tkK v' b).os.2.pos = b.length ∧ (tkK v' b).os.1 = n.others:=fun h=>by
   obtain ⟨c1,c2⟩:=numI_at (most:=32) h (by have:=hP.no;omega) (by decide)
   have e : (tkK v' b).os = manyR (seenR b) n.others.length (tkK v' b).no.2:=by
     show manyR (seenR b) (tkK v' b).no.1.toNat (tkK v' b).no.2 = _
     rw [show (tkK v' b).no.1 = (n.others.length : Int) from c1,Int.toNat_natCast]
   have c3 : At b (n.others.flatMap seenY ++ []) (tkK v' b).no.2:=c2
   have c4:=many_exact (f:=seenR b) (enc:=seenY) n.others (tkK v' b).no.2 [] c3.good (fun x hx s r s1 s2=>by
     have:=hP.others x hx
     exact seen_write s1 s2 ⟨by omega,le40 (by omega)⟩ ⟨by omega,le40 (by omega)⟩ ⟨by omega,le40 (by omega)⟩) c3.ahead
   have c5:=at_end (at_next c3)
   rw [e,c4]
   exact ⟨rfl,c5.2,rfl⟩
 by_cases hvv : v' = v
 · right
   subst hvv
   have c4:=many_exact (f:=chunkRS b v') (enc:=chunkY v') n.chunks (tkK v' b).nc.2 _ q.good (fun c hc s r s1 s2=>(chunk_read h8 (v:=v') (v':=v') (goodC_right (hP.chunks c hc)) hcl s1 s2).1 rfl) q.ahead
   rw [← hcs] at c4
   have c5:=at_next q
   obtain ⟨l1,l2,l3⟩:=hlive (by rw [c4];exact c5)
   have l4 : (tkK v' b).cs.1 = n.chunks:=by rw [c4]
   refine ⟨l1,l2,a1,a2,l3,fun _=>l4,?_⟩
   rw [show (takeN v' b).chunks = n.chunks from l4]
   exact all2_self (fun c=>⟨rfl,rfl,fun _=>rfl⟩) _
 · rcases many_sync (f:=chunkRS b v') (enc:=chunkY v) (R:=fun c k : Chunk=>k.x = c.x ∧ k.y = c.y ∧ ((findV v c.x c.y).2 = false → k = c)) n.chunks (tkK v' b).nc.2 _ q.good (fun c hc s r s1 s2=>(chunk_read h8 (v:=v) (v':=v') (goodC_right (hP.chunks c hc)) hcl s1 s2).2) q.ahead with c4|⟨c4,c5⟩
   · left
     rw [← hcs] at c4
     exact ⟨hdead c4,hvv⟩
   · right
     rw [← hcs] at c4 c5
     obtain ⟨l1,l2,l3⟩:=hlive (by rw [c5];exact at_next q)
     exact ⟨l1,l2,a1,a2,l3,fun h=>absurd h hvv,c4⟩
theorem take_make {v n : Viw} (hn : rightV n = true) (hv : baseB v = true) : takeY v (makeY v n) = (n,0):=by
 rcases take_sync (v':=v) hn hv with ⟨_,h⟩|⟨h1,h2,h3,h4,h5,h6,_⟩
 · exact absurd rfl h
 · have e : takeN v (makeY v n) = n:=by
     have h6:=h6 rfl
     obtain ⟨a,b,c,d⟩:=n
     generalize takeN v _ = T at *
     obtain ⟨a',b',c',d'⟩:=T
     dsimp only at *
     rw [h3,h4,h5,h6]
   unfold takeY
   rw [if_neg (by rw [hv];simp),if_neg,e,if_pos]
   · exact ⟨by unfold makeB;rw [hn,hv];rfl,rfl⟩
   · rw [h1]
     rintro (h|h)
     · cases h
     · exact h h2
open Go Go.RowKit Eng
theorem idx_find (x y : Int) (l : List (El .chunk)) (hl : l.length ≤ 2000000000000) : Ev1 Tryz.prog 133 [.vec .chunk l,.clo (.func 160) [] [.ptr 0 0,.ptr 2 0]] [(0,.box [i64 x]),(2,.box [i64 y])] (i64 (idxGo (hereC x y) l 0)) [(0,.box [i64 x]),(2,.box [i64 y])]:=by
 refine Ev1.of_fin cfg_ok Tryz.func133 rfl (nt:=17) rfl rfl rfl ?_
 conv=>whnf
 refine Runs.loopS cfg_ok (σ:=Nat) [0,1,7,8] (fun k=>[.vec .chunk l,.clo (.func 160) [] [.ptr 0 0,.ptr 2 0],i64 l.length,i64 k]) (fun _=>[(0,.box [i64 x]),(2,.box [i64 y])]) (fun k=>k ≤ l.length ∧ idxGo (hereC x y) (l.drop k) k = idxGo (hereC x y) l 0) (fun k=>l.length - k) 0 ⟨by omega,rfl⟩ ?_ ?_
 · conv=>whnf
   repeat' (first|exact trivial|((first|refine kL ?_|(refine ⟨fun hb=>?_,fun hb=>?_⟩<;>(try simp only [nrm] at hb)<;>(try (first|(exfalso;omega)|contradiction|exact kB hb)))|refine kW cfg_ok ?_|refine kC ?_|refine bdA ?_|refine bd2 ?_|refine bdR ?_|refine bdL ?_)<;>(conv=>whnf))|(refine And.intro ?_ ?_;rotate_left;(conv=>whnf);rotate_right))
 · intro k ⟨hk,he⟩
   by_cases hlt : k < l.length
   · rw [drop_elt hlt] at he
     simp only [idxGo] at he
     have hcl:=find1_ev (elt .chunk l k) x y
     cases hP : (hereC x y) (elt .chunk l k) with
     | true =>
       rw [hP] at he hcl
       conv=>whnf
       repeat' (first|exact trivial|((first|refine kL ?_|(refine ⟨fun hb=>?_,fun hb=>?_⟩<;>(try simp only [nrm] at hb)<;>(try (first|(exfalso;omega)|contradiction|exact kB hb)))|refine kE hcl [(0,0),(2,2)] rfl ?_|refine kF hcl [(0,0),(2,2)] rfl ?_|refine kW cfg_ok ?_|refine kC ?_|refine bdA ?_|refine bd2 ?_|refine bdR ?_|refine bdL ?_)<;>(conv=>whnf))|(refine And.intro ?_ ?_;rotate_left;(conv=>whnf);rotate_right))
       rw [← he];rfl
     | false =>
       rw [hP] at he hcl
       conv=>whnf
       repeat' (first|exact trivial|((first|refine kL ?_|(refine ⟨fun hb=>?_,fun hb=>?_⟩<;>(try simp only [nrm] at hb)<;>(try (first|(exfalso;omega)|contradiction|exact kB hb)))|refine kE hcl [(0,0),(2,2)] rfl ?_|refine kF hcl [(0,0),(2,2)] rfl ?_|refine kW cfg_ok ?_|refine kC ?_|refine bdA ?_|refine bd2 ?_|refine bdR ?_|refine bdL ?_)<;>(conv=>whnf))|(refine And.intro ?_ ?_;rotate_left;(conv=>whnf);rotate_right))
       refine .to (k + 1) ⟨hlt,?_⟩ (by omega) ?_
       · rw [← he];rfl
       · conv=>whnf
         repeat' (first|exact trivial|((first|refine kL ?_|(refine ⟨fun hb=>?_,fun hb=>?_⟩<;>(try simp only [nrm] at hb)<;>(try (first|(exfalso;omega)|contradiction|exact kB hb)))|refine kW cfg_ok ?_|refine kC ?_|refine bdA ?_|refine bd2 ?_|refine bdR ?_|refine bdL ?_)<;>(conv=>whnf))|(refine And.intro ?_ ?_;rotate_left;(conv=>whnf);rotate_right))
   · conv=>whnf
     repeat' (first|exact trivial|((first|refine kL ?_|(refine ⟨fun hb=>?_,fun hb=>?_⟩<;>(try simp only [nrm] at hb)<;>(try (first|(exfalso;omega)|contradiction|exact kB hb)))|refine kW cfg_ok ?_|refine kC ?_|refine bdA ?_|refine bd2 ?_|refine bdR ?_|refine bdL ?_)<;>(conv=>whnf))|(refine And.intro ?_ ?_;rotate_left;(conv=>whnf);rotate_right))
     have : k = l.length:=by omega
     subst this
     simp only [List.drop_length,idxGo] at he
     rw [← he]
theorem vfind_api (v : Viw) (x y : Int) (hn : v.chunks.length ≤ 2000000000000) : Api Tryz.prog 98 [viewV v,i64 x,i64 y] (.tup [chunkV (findV v x y).1,bol (findV v x y).2]):=by
 have h1:=idx_find x y v.chunks hn
 have hlt:=idxGo_lt (hereC x y) v.chunks 0
 unfold findV
 generalize idxGo (hereC x y) v.chunks 0 = I at *
 by_cases hI : I < 0
 · rw [if_pos hI]
   refine Api.of_fin cfg_ok Tryz.func98 rfl (nt:=18) rfl rfl ?_
   conv=>whnf
   repeat' (first|exact trivial|((first|refine kL ?_|(refine ⟨fun hb=>?_,fun hb=>?_⟩<;>(try simp only [nrm] at hb)<;>(try (first|(exfalso;omega)|contradiction|exact kB hb)))|refine kE h1 [(0,8),(2,10)] rfl ?_|refine kF h1 [(0,8),(2,10)] rfl ?_|refine kW cfg_ok ?_|refine kC ?_|refine bdA ?_|refine bd2 ?_|refine bdR ?_|refine bdL ?_)<;>(conv=>whnf))|(refine And.intro ?_ ?_;rotate_left;(conv=>whnf);rotate_right))
 · rw [if_neg hI]
   refine Api.of_fin cfg_ok Tryz.func98 rfl (nt:=18) rfl rfl ?_
   conv=>whnf
   repeat' (first|exact trivial|((first|refine kL ?_|(refine ⟨fun hb=>?_,fun hb=>?_⟩<;>(try simp only [nrm] at hb)<;>(try (first|(exfalso;omega)|contradiction|exact kB hb)))|refine kE h1 [(0,8),(2,10)] rfl ?_|refine kF h1 [(0,8),(2,10)] rfl ?_|refine kW cfg_ok ?_|refine kC ?_|refine bdA ?_|refine bd2 ?_|refine bdR ?_|refine bdL ?_)<;>(conv=>whnf))|(refine And.intro ?_ ?_;rotate_left;(conv=>whnf);rotate_right))
theorem sput_ev (l : List (El .u8)) (len : Nat) (ns : List (El .i64)) (n : Nat) (hn : n = ns.length) (hlen : len = l.length) (hns : ∀ z ∈ ns,okN z) (hl : l.length + ns.length * 10 + 10 ≤ 140737488355328) : Ev1 Tryz.prog 96 [.ptr 0 0,.own .i64 3 0 n (some n)] [(0,.box [.own .u8 1 0 len none]),(1,.row .u8 l),(3,.row .i64 ns)] (.tup []) [(0,.box [.own .u8 390001 0 (len + (putY ns).length) none]),(390001,.row .u8 (l ++ putY ns))]:=by
 subst hn
 subst hlen
 refine Ev1.of_fin cfg_ok Tryz.func96 rfl (nt:=21) rfl rfl rfl ?_
 conv=>whnf
 refine Runs.loopS cfg_ok (σ:=Nat) [0,6,7,8] (fun k=>[.ptr 0 0,.own .i64 3 0 ns.length none,i64 ns.length,i64 k]) (fun k=>[(0,.box [.own .u8 350001 0 (l.length + (putY (ns.take k)).length) none]),(350001,.row .u8 (l ++ putY (ns.take k))),(3,.row .i64 ns)])
   (fun k=>k ≤ ns.length) (fun k=>ns.length - k) 0 (by omega) ?_ ?_
 · conv=>whnf
   repeat' (first|exact trivial|((first|refine kL ?_|(refine ⟨fun hb=>?_,fun hb=>?_⟩<;>(try simp only [nrm] at hb)<;>(try (first|(exfalso;omega)|contradiction|exact kB hb)))|refine kW cfg_ok ?_|refine kC ?_|refine bdA ?_|refine bd2 ?_|refine bdR ?_|refine bdL ?_)<;>(conv=>whnf))|(refine And.intro ?_ ?_;rotate_left;(conv=>whnf);rotate_right))
   all_goals first|rfl|(simp [putY];done)
 · intro k hk
   by_cases hlt : k < ns.length
   · have hz:=hns _ (elt_mem (t:=.i64) hlt)
     have hz2:=hz.le
     have hpl:=putY_len (ns.take k)
     rw [List.length_take] at hpl
     conv=>whnf
     repeat' (first|exact trivial|((first|refine kL ?_|(refine ⟨fun hb=>?_,fun hb=>?_⟩<;>(try simp only [nrm] at hb)<;>(try (first|(exfalso;omega)|contradiction|exact kB hb)))|(refine isE 77 ?_;refine kE (uint_evz (l ++ putY (ns.take k)) _ (elt .i64 ns k) (by rw [List.length_append]) hz.1 hz.2 (by rw [List.length_append];omega)) [(1,350001),(390001,350003)] rfl ?_)|(refine isD 77 ?_;refine kF (uint_evz (l ++ putY (ns.take k)) _ (elt .i64 ns k) (by rw [List.length_append]) hz.1 hz.2 (by rw [List.length_append];omega)) [(1,350001),(390001,350003)] rfl ?_)|(refine .inl ⟨inU64 hz.1 hz2,?_⟩)|refine kW cfg_ok ?_|refine kC ?_|refine bdA ?_|refine bd2 ?_|refine bdR ?_|refine bdL ?_)<;>(conv=>whnf))|(refine And.intro ?_ ?_;rotate_left;(conv=>whnf);rotate_right))
     refine .to (k + 1) hlt (by omega) ?_
     have hpt:=putY_take hlt
     conv=>whnf
     repeat' (first|exact trivial|((first|refine kL ?_|(refine ⟨fun hb=>?_,fun hb=>?_⟩<;>(try simp only [nrm] at hb)<;>(try (first|(exfalso;omega)|contradiction|exact kB hb)))|refine kW cfg_ok ?_|refine kC ?_|refine bdA ?_|refine bd2 ?_|refine bdR ?_|refine bdL ?_)<;>(conv=>whnf))|(refine And.intro ?_ ?_;rotate_left;(conv=>whnf);rotate_right))
     all_goals (try rw [hpt])
     · exact List.take_length
     · rw [List.length_append];omega
     · exact (List.take_of_length_le (by simp only [List.length_append];omega)).trans (List.append_assoc ..)
   · obtain rfl : k = ns.length:=by omega
     rw [List.take_length]
     conv=>whnf
     repeat' (first|exact trivial|((first|refine kL ?_|(refine ⟨fun hb=>?_,fun hb=>?_⟩<;>(try simp only [nrm] at hb)<;>(try (first|(exfalso;omega)|contradiction|exact kB hb)))|refine kW cfg_ok ?_|refine kC ?_|refine bdA ?_|refine bd2 ?_|refine bdR ?_|refine bdL ?_)<;>(conv=>whnf))|(refine And.intro ?_ ?_;rotate_left;(conv=>whnf);rotate_right))
     all_goals first|rfl|exact List.take_length|(refine List.take_of_length_le ?_;first|exact Nat.le_refl _|(rw [List.length_append];exact Nat.le_refl _))
theorem sput_nil (ns : List (El .i64)) (n : Nat) (hn : n = ns.length) (hns : ∀ z ∈ ns,okN z) (hl : ns.length * 10 + 10 ≤ 140737488355328) : Ev1 Tryz.prog 96 [.ptr 0 0,.own .i64 3 0 n (some n)] [(0,.box [.lit (.slice none 0 0)]),(3,.row .i64 ns)] (.tup []) [(0,.box [.own .u8 390001 0 (putY ns).length none]),(390001,.row .u8 (putY ns))]:=by
 subst hn
 refine Ev1.of_fin cfg_ok Tryz.func96 rfl (nt:=21) rfl rfl rfl ?_
 conv=>whnf
 refine Runs.loopS cfg_ok (σ:=Nat) [0,6,7,8] (fun k=>[.ptr 0 0,.own .i64 3 0 ns.length none,i64 ns.length,i64 k]) (fun k=>[(0,.box [.own .u8 350001 0 (putY (ns.take k)).length none]),(350001,.row .u8 (putY (ns.take k))),(3,.row .i64 ns)])
   (fun k=>k ≤ ns.length) (fun k=>ns.length - k) 0 (by omega) ?_ ?_
 · conv=>whnf
   repeat' (first|exact trivial|((first|refine kL ?_|(refine ⟨fun hb=>?_,fun hb=>?_⟩<;>(try simp only [nrm] at hb)<;>(try (first|(exfalso;omega)|contradiction|exact kB hb)))|refine kW cfg_ok ?_|refine kC ?_|refine bdA ?_|refine bd2 ?_|refine bdR ?_|refine bdL ?_)<;>(conv=>whnf))|(refine And.intro ?_ ?_;rotate_left;(conv=>whnf);rotate_right))
   all_goals first|rfl|(simp [putY];done)
 · intro k hk
   by_cases hlt : k < ns.length
   · have hz:=hns _ (elt_mem (t:=.i64) hlt)
     have hz2:=hz.le
     have hpl:=putY_len (ns.take k)
     rw [List.length_take] at hpl
     conv=>whnf
     repeat' (first|exact trivial|((first|refine kL ?_|(refine ⟨fun hb=>?_,fun hb=>?_⟩<;>(try simp only [nrm] at hb)<;>(try (first|(exfalso;omega)|contradiction|exact kB hb)))|(refine isE 77 ?_;refine kE (uint_evz (putY (ns.take k)) _ (elt .i64 ns k) rfl hz.1 hz.2 (by omega)) [(1,350001),(390001,350003)] rfl ?_)|(refine isD 77 ?_;refine kF (uint_evz (putY (ns.take k)) _ (elt .i64 ns k) rfl hz.1 hz.2 (by omega)) [(1,350001),(390001,350003)] rfl ?_)|(refine .inl ⟨inU64 hz.1 hz2,?_⟩)|refine kW cfg_ok ?_|refine kC ?_|refine bdA ?_|refine bd2 ?_|refine bdR ?_|refine bdL ?_)<;>(conv=>whnf))|(refine And.intro ?_ ?_;rotate_left;(conv=>whnf);rotate_right))
     refine .to (k + 1) hlt (by omega) ?_
     have hpt:=putY_take hlt
     conv=>whnf
     repeat' (first|exact trivial|((first|refine kL ?_|(refine ⟨fun hb=>?_,fun hb=>?_⟩<;>(try simp only [nrm] at hb)<;>(try (first|(exfalso;omega)|contradiction|exact kB hb)))|refine kW cfg_ok ?_|refine kC ?_|refine bdA ?_|refine bd2 ?_|refine bdR ?_|refine bdL ?_)<;>(conv=>whnf))|(refine And.intro ?_ ?_;rotate_left;(conv=>whnf);rotate_right))
     all_goals (try rw [hpt])
     · exact List.take_length
     · rw [List.length_append]
     · exact List.take_of_length_le (by simp only [List.length_append];omega)
   · obtain rfl : k = ns.length:=by omega
     rw [List.take_length]
     conv=>whnf
     repeat' (first|exact trivial|((first|refine kL ?_|(refine ⟨fun hb=>?_,fun hb=>?_⟩<;>(try simp only [nrm] at hb)<;>(try (first|(exfalso;omega)|contradiction|exact kB hb)))|refine kW cfg_ok ?_|refine kC ?_|refine bdA ?_|refine bd2 ?_|refine bdR ?_|refine bdL ?_)<;>(conv=>whnf))|(refine And.intro ?_ ?_;rotate_left;(conv=>whnf);rotate_right))
     all_goals first|rfl|exact List.take_length|(refine List.take_of_length_le ?_;first|exact Nat.le_refl _|(rw [List.length_append];exact Nat.le_refl _))
theorem blob_ev (l : List (El .u8)) (b : List (El .u8)) (len : Nat) (hlen : len = l.length) (hl : l.length + b.length + 30 ≤ 140737488355328) : Ev1 Tryz.prog 80 [.own .u8 1 0 len none,.vec .u8 b] [(1,.row .u8 l)] (.own .u8 390001 0 (len + (uintL b.length ++ b).length) none) [(390001,.row .u8 (l ++ (uintL b.length ++ b)))]:=by
 subst hlen
 have h1:=uint_ev l b.length (by omega) (by omega)
 have hu:=uintF_len 9 b.length
 have hu2 : (uintL b.length).length ≤ 10:=hu
 refine Ev1.of_fin cfg_ok Tryz.func80 rfl (nt:=10) rfl rfl rfl ?_
 conv=>whnf
 repeat' (first|exact trivial|((first|refine kL ?_|(refine ⟨fun hb=>?_,fun hb=>?_⟩<;>(try simp only [nrm] at hb)<;>(try (first|(exfalso;omega)|contradiction|exact kB hb)))|refine kE h1 [(1,1),(390001,350001)] rfl ?_|refine kF h1 [(1,1),(390001,350001)] rfl ?_|refine kW cfg_ok ?_|refine kC ?_|refine bdA ?_|refine bd2 ?_|refine bdR ?_|refine bdL ?_)<;>(conv=>whnf))|(refine And.intro ?_ ?_;rotate_left;(conv=>whnf);rotate_right))
 rw [List.take_of_length_le (l:=l ++ uintL b.length) (by rw [List.length_append];exact Nat.le_refl _),List.take_of_length_le (by simp only [List.length_append];omega),List.append_assoc]
theorem sslots_ev (l : List (El .u8)) (len : Nat) (bag : List (El .slot)) (hlen : len = l.length) (hok : ∀ s ∈ bag,(0 ≤ s.item ∧ s.item ≤ 255) ∧ okN s.n) (hl : l.length + bag.length * 20 + 100 ≤ 140737488355328) : Ev1 Tryz.prog 97 [.ptr 0 0,.vec .slot bag] [(0,.box [.own .u8 1 0 len none]),(1,.row .u8 l)] (.tup []) [(0,.box [.own .u8 390001 0 (len + (bag.flatMap slotL).length) none]),(390001,.row .u8 (l ++ bag.flatMap slotL))]:=by
 subst hlen
 refine Ev1.of_fin cfg_ok Tryz.func97 rfl (nt:=19) rfl rfl rfl ?_
 conv=>whnf
 refine Runs.loopS cfg_ok (σ:=Nat) [0,6,7,8] (fun k=>[.ptr 0 0,.vec .slot bag,i64 bag.length,i64 k]) (fun k=>[(0,.box [.own .u8 350001 0 (l.length + ((bag.take k).flatMap slotL).length) none]),(350001,.row .u8 (l ++ (bag.take k).flatMap slotL))])
   (fun k=>k ≤ bag.length) (fun k=>bag.length - k) 0 (by omega) ?_ ?_
 · conv=>whnf
   repeat' (first|exact trivial|((first|refine kL ?_|(refine ⟨fun hb=>?_,fun hb=>?_⟩<;>(try simp only [nrm] at hb)<;>(try (first|(exfalso;omega)|contradiction|exact kB hb)))|refine kW cfg_ok ?_|refine kC ?_|refine bdA ?_|refine bd2 ?_|refine bdR ?_|refine bdL ?_)<;>(conv=>whnf))|(refine And.intro ?_ ?_;rotate_left;(conv=>whnf);rotate_right))
   all_goals first|rfl|(rw [List.take_length];simp;done)
 · intro k hk
   have hfl:=flatMap_len slotL 20 (bag.take k) (fun s _=>slotL_len s)
   rw [List.length_take] at hfl
   by_cases hlt : k < bag.length
   · obtain ⟨⟨ha1,ha2⟩,hb1,hb2⟩:=hok _ (elt_mem (t:=.slot) hlt)
     have hi1 : -9223372036854775808 ≤ (elt .slot bag k).item:=by omega
     have hi2 : (elt .slot bag k).item ≤ 9223372036854775807:=by omega
     have hok : ∀ z ∈ [(elt .slot bag k).item,(elt .slot bag k).n],okN z:=by
       intro z hz
       simp only [List.mem_cons,List.not_mem_nil,or_false] at hz
       rcases hz with rfl|rfl<;>(unfold okN;omega)
     have hput:=sput_ev (l ++ (bag.take k).flatMap slotL) _ [(elt .slot bag k).item,(elt .slot bag k).n] _ rfl (by rw [List.length_append]) hok (by simp only [List.length_append,List.length_cons,List.length_nil];omega)
     conv=>whnf
     repeat' (first|exact trivial|((first|refine kL ?_|(refine ⟨fun hb=>?_,fun hb=>?_⟩<;>(try simp only [nrm] at hb)<;>(try (first|(exfalso;omega)|contradiction|exact kB hb)))|refine kE hput [(0,0),(1,350001),(3,200037),(390001,350003)] rfl ?_|refine kF hput [(0,0),(1,350001),(3,200037),(390001,350003)] rfl ?_|(refine .inl ⟨in64 hi1 hi2,?_⟩)|refine kW cfg_ok ?_|refine kC ?_|refine bdA ?_|refine bd2 ?_|refine bdR ?_|refine bdL ?_)<;>(conv=>whnf))|(refine And.intro ?_ ?_;rotate_left;(conv=>whnf);rotate_right))
     refine .to (k + 1) hlt (by omega) ?_
     conv=>whnf
     repeat' (first|exact trivial|((first|refine kL ?_|(refine ⟨fun hb=>?_,fun hb=>?_⟩<;>(try simp only [nrm] at hb)<;>(try (first|(exfalso;omega)|contradiction|exact kB hb)))|refine kW cfg_ok ?_|refine kC ?_|refine bdA ?_|refine bd2 ?_|refine bdR ?_|refine bdL ?_)<;>(conv=>whnf))|(refine And.intro ?_ ?_;rotate_left;(conv=>whnf);rotate_right))
     · exact grow_len (t:=.slot) (f:=slotL) l hlt rfl
     · exact grow_row (t:=.slot) (f:=slotL) l hlt rfl
   · obtain rfl : k = bag.length:=by omega
     rw [List.take_length]
     conv=>whnf
     repeat' (first|exact trivial|((first|refine kL ?_|(refine ⟨fun hb=>?_,fun hb=>?_⟩<;>(try simp only [nrm] at hb)<;>(try (first|(exfalso;omega)|contradiction|exact kB hb)))|refine kW cfg_ok ?_|refine kC ?_|refine bdA ?_|refine bd2 ?_|refine bdR ?_|refine bdL ?_)<;>(conv=>whnf))|(refine And.intro ?_ ?_;rotate_left;(conv=>whnf);rotate_right))
     all_goals first|rfl|exact List.take_length|(refine List.take_of_length_le ?_;first|exact Nat.le_refl _|(rw [List.length_append];exact Nat.le_refl _))
open Go Go.RowKit Eng
theorem take_app {α : Type} (a b : List α) : List.take (a.length + b.length) (a ++ b) = a ++ b:=by rw [← List.length_append];exact List.take_length
theorem okN_one {a : Int} (h : okN a) : ∀ z ∈ [a],okN z:=fun z hz=>by rw [List.mem_singleton.1 hz];exact h
theorem okN_two {a b : Int} (h : okN a) (k : okN b) : ∀ z ∈ [a,b],okN z:=fun z hz=>by
 simp only [List.mem_cons,List.not_mem_nil,or_false] at hz
 rcases hz with rfl|rfl
 · exact h
 · exact k
theorem turnS_mem {a b : Chunk} (hb : b.cells.length = 64) {i : Int} (h : i ∈ (turnS a b).1) : 0 ≤ i ∧ i < 64:=by
 unfold turnS at h
 split at h
 · obtain ⟨k,rfl,k1,_⟩:=mem_diffI.1 h
   omega
 · cases h
theorem turnS_len {a b : Chunk} (hb : b.cells.length = 64) : (turnS a b).1.length ≤ 64:=by
 unfold turnS
 split
 · have:=diffI_len (a:=a.cells) (b:=b.cells) (k:=b.cells.length)
   show (diffI a.cells b.cells b.cells.length).length ≤ 64
   omega
 · exact Nat.zero_le _
theorem cellY_len (c : Chunk) (i : El .i64) : (cellY c i).length ≤ 20:=putY_len _
theorem schunk_ev (l : List (El .u8)) (len : Nat) (was c : Chunk) (there : Bool) (hlen : len = l.length) (hw : there = true → rightB was = true) (how : OkC was) (hg : rightB c = true) (hl : l.length ≤ 10000000000) : Ev1 Tryz.prog 99 [.ptr 0 0,chunkV was,bol there,chunkV c] [(0,.box [.own .u8 1 0 len none]),(1,.row .u8 l)] (.tup []) [(0,.box [.own .u8 390001 0 (len + (putY [c.x,c.y] ++ formY (was,there) c).length) none]),(390001,.row .u8 (l ++ (putY [c.x,c.y] ++ formY (was,there) c)))]:=by
 subst hlen
 have hc:=okC_right hg
 have hb1:=bytes_api c hc
 rw [hg,if_pos rfl,if_pos rfl] at hb1
 have hcl : c.cells.length = 64:=by have:=right_len hg;omega
 have hGC:=goodC_right hg
 have hat:=hGC.at
 have hBl:=hGC.le.1
 have g1:=sput_ev l _ [c.x,c.y] _ rfl rfl (okN_two (by unfold okN;omega) (by unfold okN;omega)) (by simp only [List.length_cons,List.length_nil];omega)
 have hP:=putY_len [c.x,c.y]
 generalize hP0 : putY [c.x,c.y] = P at *
 simp only [List.length_cons,List.length_nil] at hP
 have hlP : (l ++ P).length ≤ 10000000020:=by rw [List.length_append];omega
 have gW1:=sput_ev (l ++ P) _ [2] _ rfl (by rw [List.length_append]) (okN_one (by unfold okN;omega)) (by simp only [List.length_cons,List.length_nil];omega)
 have hP2:=putY_len [2]
 simp only [List.length_cons,List.length_nil] at hP2
 have gW2:=blob_ev (l ++ P ++ putY [2]) (bytesC c) _ (by rw [List.length_append,List.length_append]) (by rw [List.length_append];omega)
 have eW : l ++ P ++ putY [2] ++ (uintL (bytesC c).length ++ bytesC c) = l ++ (P ++ wholeY c):=by unfold wholeY;simp only [List.append_assoc]
 have eWl : l.length + P.length + (putY [2]).length + (uintL (bytesC c).length ++ bytesC c).length = l.length + (P ++ wholeY c).length:=by unfold wholeY;simp only [List.length_append];omega
 rw [eW,eWl] at gW2
 have hU : (uintL (bytesC c).length ++ bytesC c).length ≤ 6000:=by rw [List.length_append];have : (uintL (bytesC c).length).length ≤ 10:=uintF_len 9 _;omega
 generalize uintL (bytesC c).length ++ bytesC c = U at *
 generalize bytesC c = B at *
 generalize hP2e : putY [2] = P2 at *
 clear eW eWl hP2e
 cases there with
 | false =>
   have e : formY (was,false) c = wholeY c:=by unfold formY;dsimp only;rw [Bool.false_and,if_neg (by simp)]
   rw [e]
   clear hw how e
   generalize wholeY c = W at *
   refine Ev1.of_fin cfg_ok Tryz.func99 rfl (nt:=80) rfl rfl rfl ?_
   ((repeat (first|(with_reducible refine evCut fun N hN hE hT=>?_)|(with_reducible refine evBlk fun N hN hE hT=>?_)));(try with_reducible refine evCnd fun X Y hX hY=>?_);(conv=>whnf))
   repeat' (first|exact trivial|((first|((first|refine hT _ _ ?_|refine hE _ _ _ ?_|refine hN _ _ ?_);clear hN hE hT)|((first|refine hX ?_|refine hY ?_);clear hX hY)|refine kL ?_|(refine ⟨fun hb=>?_,fun hb=>?_⟩<;>(try simp only [nrm] at hb)<;>(try (first|(exfalso;omega)|contradiction|exact kB hb)))|refine kE g1 [(0,0),(1,1),(3,200039),(390001,350001)] rfl ?_ (hrd:=⟨rfl,rfl,rfl,trivial⟩)|refine kF g1 [(0,0),(1,1),(3,200039),(390001,350001)] rfl ?_ (hrd:=⟨rfl,rfl,rfl,trivial⟩)|refine kE gW1 [(0,0),(1,350001),(3,200059),(390001,350003)] rfl ?_ (hrd:=⟨rfl,rfl,rfl,trivial⟩)|refine kF gW1 [(0,0),(1,350001),(3,200059),(390001,350003)] rfl ?_ (hrd:=⟨rfl,rfl,rfl,trivial⟩)|refine kE gW2 [(1,350003),(390001,350005)] rfl ?_ (hrd:=⟨rfl,trivial⟩)|refine kF gW2 [(1,350003),(390001,350005)] rfl ?_ (hrd:=⟨rfl,trivial⟩)|refine kA hb1 ?_|refine kD hb1 ?_|refine kW cfg_ok ?_|refine kC ?_|refine bdA ?_|refine bd2 ?_|refine bdR ?_|refine bdL ?_)<;>((repeat (first|(with_reducible refine evCut fun N hN hE hT=>?_)|(with_reducible refine evBlk fun N hN hE hT=>?_)));(try with_reducible refine evCnd fun X Y hX hY=>?_);(conv=>whnf)))|(refine And.intro ?_ ?_;rotate_left;(conv=>whnf);rotate_right))
   exact take_app _ _
 | true =>
   have hw:=hw rfl
   have hwl : was.cells.length = 64:=by have:=right_len hw;omega
   have htu:=turned_api was c how hc (by omega) (by omega)
   have hTm : ∀ i : Int,i ∈ (turnS was c).1 → 0 ≤ i ∧ i < 64:=fun i hi=>turnS_mem hcl hi
   have hTl:=turnS_len (a:=was) hcl
   have e : formY (was,true) c = if (turnS was c).2 then (if (turnS was c).1.length = 0 then putY [0] else if (turnS was c).1.length ≤ 16 then cellsY c (turnS was c).1 else wholeY c) else wholeY c:=by unfold formY;dsimp only;rw [Bool.true_and]
   rw [e]
   clear e
   generalize wholeY c = W at *
   generalize turnS was c = T at *
   obtain ⟨D,o⟩:=T
   dsimp only at *
   cases o with
   | false =>
     rw [if_neg (by simp)]
     refine Ev1.of_fin cfg_ok Tryz.func99 rfl (nt:=80) rfl rfl rfl ?_
     ((repeat (first|(with_reducible refine evCut fun N hN hE hT=>?_)|(with_reducible refine evBlk fun N hN hE hT=>?_)));(try with_reducible refine evCnd fun X Y hX hY=>?_);(conv=>whnf))
     repeat' (first|exact trivial|((first|((first|refine hT _ _ ?_|refine hE _ _ _ ?_|refine hN _ _ ?_);clear hN hE hT)|((first|refine hX ?_|refine hY ?_);clear hX hY)|refine kL ?_|(refine ⟨fun hb=>?_,fun hb=>?_⟩<;>(try simp only [nrm] at hb)<;>(try (first|(exfalso;omega)|contradiction|exact kB hb)))|refine kE g1 [(0,0),(1,1),(3,200039),(390001,350001)] rfl ?_ (hrd:=⟨rfl,rfl,rfl,trivial⟩)|refine kF g1 [(0,0),(1,1),(3,200039),(390001,350001)] rfl ?_ (hrd:=⟨rfl,rfl,rfl,trivial⟩)|refine kE gW1 [(0,0),(1,350001),(3,200059),(390001,350003)] rfl ?_ (hrd:=⟨rfl,rfl,rfl,trivial⟩)|refine kF gW1 [(0,0),(1,350001),(3,200059),(390001,350003)] rfl ?_ (hrd:=⟨rfl,rfl,rfl,trivial⟩)|refine kE gW2 [(1,350003),(390001,350005)] rfl ?_ (hrd:=⟨rfl,trivial⟩)|refine kF gW2 [(1,350003),(390001,350005)] rfl ?_ (hrd:=⟨rfl,trivial⟩)|refine kA htu ?_|refine kD htu ?_|refine kA hb1 ?_|refine kD hb1 ?_|refine kW cfg_ok ?_|refine kC ?_|refine bdA ?_|refine bd2 ?_|refine bdR ?_|refine bdL ?_)<;>((repeat (first|(with_reducible refine evCut fun N hN hE hT=>?_)|(with_reducible refine evBlk fun N hN hE hT=>?_)));(try with_reducible refine evCnd fun X Y hX hY=>?_);(conv=>whnf)))|(refine And.intro ?_ ?_;rotate_left;(conv=>whnf);rotate_right))
     exact take_app _ _
   | true =>
     rw [if_pos rfl]
     by_cases c0 : D.length = 0
     · rw [if_pos c0]
       have g2:=sput_ev (l ++ P) _ [0] _ rfl (by rw [List.length_append]) (okN_one (by unfold okN;omega)) (by simp only [List.length_cons,List.length_nil];omega)
       refine Ev1.of_fin cfg_ok Tryz.func99 rfl (nt:=80) rfl rfl rfl ?_
       ((repeat (first|(with_reducible refine evCut fun N hN hE hT=>?_)|(with_reducible refine evBlk fun N hN hE hT=>?_)));(try with_reducible refine evCnd fun X Y hX hY=>?_);(conv=>whnf))
       repeat' (first|exact trivial|((first|((first|refine hT _ _ ?_|refine hE _ _ _ ?_|refine hN _ _ ?_);clear hN hE hT)|((first|refine hX ?_|refine hY ?_);clear hX hY)|refine kL ?_|(refine ⟨fun hb=>?_,fun hb=>?_⟩<;>(try simp only [nrm] at hb)<;>(try (first|(exfalso;omega)|contradiction|exact kB hb)))|refine kE g1 [(0,0),(1,1),(3,200039),(390001,350001)] rfl ?_ (hrd:=⟨rfl,rfl,rfl,trivial⟩)|refine kF g1 [(0,0),(1,1),(3,200039),(390001,350001)] rfl ?_ (hrd:=⟨rfl,rfl,rfl,trivial⟩)|refine kE g2 [(0,0),(1,350001),(3,200107),(390001,350003)] rfl ?_ (hrd:=⟨rfl,rfl,rfl,trivial⟩)|refine kF g2 [(0,0),(1,350001),(3,200107),(390001,350003)] rfl ?_ (hrd:=⟨rfl,rfl,rfl,trivial⟩)|refine kA htu ?_|refine kD htu ?_|refine kW cfg_ok ?_|refine kC ?_|refine bdA ?_|refine bd2 ?_|refine bdR ?_|refine bdL ?_)<;>((repeat (first|(with_reducible refine evCut fun N hN hE hT=>?_)|(with_reducible refine evBlk fun N hN hE hT=>?_)));(try with_reducible refine evCnd fun X Y hX hY=>?_);(conv=>whnf)))|(refine And.intro ?_ ?_;rotate_left;(conv=>whnf);rotate_right))
       all_goals first|(simp only [List.length_append];omega)|(rw [← List.append_assoc];exact List.take_of_length_le (by simp only [List.length_append];omega))
     · rw [if_neg c0]
       by_cases c16 : D.length ≤ 16
       · rw [if_pos c16]
         have g2:=sput_ev (l ++ P) _ [1,(D.length : Int)] _ rfl (by rw [List.length_append]) (okN_two (by unfold okN;omega) (by unfold okN;omega)) (by simp only [List.length_cons,List.length_nil];omega)
         have hP3:=putY_len [1,(D.length : Int)]
         simp only [List.length_cons,List.length_nil] at hP3
         unfold cellsY
         generalize putY [1,(D.length : Int)] = P3 at *
         have hQl : (l ++ P ++ P3).length ≤ 10000000060:=by rw [List.length_append];omega
         have hQe : l.length + P.length + P3.length = (l ++ P ++ P3).length:=by simp only [List.length_append]
         rw [hQe] at g2
         have hend : l ++ (P ++ (P3 ++ D.flatMap (cellY c))) = l ++ P ++ P3 ++ D.flatMap (cellY c):=by simp only [List.append_assoc]
         have hendl : l.length + (P ++ (P3 ++ D.flatMap (cellY c))).length = (l ++ P ++ P3).length + (D.flatMap (cellY c)).length:=by simp only [List.length_append];omega
         rw [hend,hendl]
         clear hend hendl hQe
         generalize hQ : l ++ P ++ P3 = Q at *
         refine Ev1.of_fin cfg_ok Tryz.func99 rfl (nt:=80) rfl rfl rfl ?_
         ((repeat (first|(with_reducible refine evCut fun N hN hE hT=>?_)|(with_reducible refine evBlk fun N hN hE hT=>?_)));(try with_reducible refine evCnd fun X Y hX hY=>?_);(conv=>whnf))
         repeat' (first|exact trivial|((first|((first|refine hT _ _ ?_|refine hE _ _ _ ?_|refine hN _ _ ?_);clear hN hE hT)|((first|refine hX ?_|refine hY ?_);clear hX hY)|refine kL ?_|(refine ⟨fun hb=>?_,fun hb=>?_⟩<;>(try simp only [nrm] at hb)<;>(try (first|(exfalso;omega)|contradiction|exact kB hb)))|refine kE g1 [(0,0),(1,1),(3,200039),(390001,350001)] rfl ?_ (hrd:=⟨rfl,rfl,rfl,trivial⟩)|refine kF g1 [(0,0),(1,1),(3,200039),(390001,350001)] rfl ?_ (hrd:=⟨rfl,rfl,rfl,trivial⟩)|refine kE g2 [(0,0),(1,350001),(3,200131),(390001,350003)] rfl ?_ (hrd:=⟨rfl,rfl,rfl,trivial⟩)|refine kF g2 [(0,0),(1,350001),(3,200131),(390001,350003)] rfl ?_ (hrd:=⟨rfl,rfl,rfl,trivial⟩)|refine kA htu ?_|refine kD htu ?_|refine kW cfg_ok ?_|refine kC ?_|refine bdA ?_|refine bd2 ?_|refine bdR ?_|refine bdL ?_)<;>((repeat (first|(with_reducible refine evCut fun N hN hE hT=>?_)|(with_reducible refine evBlk fun N hN hE hT=>?_)));(try with_reducible refine evCnd fun X Y hX hY=>?_);(conv=>whnf)))|(refine And.intro ?_ ?_;rotate_left;(conv=>whnf);rotate_right))
         clear g1 g2 htu hb1 gW1 gW2
         refine Runs.loopS cfg_ok (σ:=Nat) [0,7,67,68,69] (fun k=>[.ptr 0 0,.ptr 200014 0,.vec .i64 D,i64 D.length,i64 k]) (fun k=>[(0,.box [.own .u8 350005 0 (Q.length + ((D.take k).flatMap (cellY c)).length) none]),(350005,.row .u8 (Q ++ (D.take k).flatMap (cellY c))),(200014,.box (chunkC c))])
           (fun k=>k ≤ D.length) (fun k=>D.length - k) 0 (by omega) ?_ ?_
         · conv=>whnf
           repeat' (first|exact trivial|((first|((first|refine hT _ _ ?_|refine hE _ _ _ ?_|refine hN _ _ ?_);clear hN hE hT)|((first|refine hX ?_|refine hY ?_);clear hX hY)|refine kL ?_|(refine ⟨fun hb=>?_,fun hb=>?_⟩<;>(try simp only [nrm] at hb)<;>(try (first|(exfalso;omega)|contradiction|exact kB hb)))|refine kW cfg_ok ?_|refine kC ?_|refine bdA ?_|refine bd2 ?_|refine bdR ?_|refine bdL ?_)<;>((repeat (first|(with_reducible refine evCut fun N hN hE hT=>?_)|(with_reducible refine evBlk fun N hN hE hT=>?_)));(try with_reducible refine evCnd fun X Y hX hY=>?_);(conv=>whnf)))|(refine And.intro ?_ ?_;rotate_left;(conv=>whnf);rotate_right))
           all_goals first|rfl|(rw [List.take_length];simp;done)
         · intro k hk
           have hfl:=flatMap_len (cellY c) 20 (D.take k) (fun s _=>cellY_len c s)
           rw [List.length_take] at hfl
           by_cases hlt : k < D.length
           · obtain ⟨i,hi⟩ : ∃ i : Int,elt .i64 D (k : Int).toNat = i:=⟨_,rfl⟩
             have hi2 : elt .i64 D k = i:=hi
             obtain ⟨hm1,hm2⟩:=hTm i (by rw [← hi2];exact elt_mem (t:=.i64) hlt)
             obtain ⟨E,hE⟩ : ∃ E : Int,elt .u8 c.cells i.toNat = E:=⟨_,rfl⟩
             have hEb : 0 ≤ E ∧ E ≤ 255:=by rw [← hE];exact hc.cells _ (elt_mem (t:=.u8) (by omega))
             have hi3 : -9223372036854775808 ≤ E:=by omega
             have hi4 : E ≤ 9223372036854775807:=by omega
             have hcy : cellY c i = putY [i,E]:=by unfold cellY;rw [hE]
             have g3:=sput_ev (Q ++ (D.take k).flatMap (cellY c)) _ [i,E] _ rfl (by rw [List.length_append]) (okN_two (by unfold okN;omega) (by unfold okN;omega)) (by simp only [List.length_append,List.length_cons,List.length_nil];omega)
             conv=>whnf
             repeat' (first|exact trivial|((first|((first|refine hT _ _ ?_|refine hE _ _ _ ?_|refine hN _ _ ?_);clear hN hE hT)|((first|refine hX ?_|refine hY ?_);clear hX hY)|refine kL ?_|(refine ⟨fun hb=>?_,fun hb=>?_⟩<;>(try simp only [nrm] at hb)<;>(try (first|(exfalso;omega)|contradiction|exact kB hb)))|refine kE g3 [(0,0),(1,350005),(3,200163),(390001,350007)] rfl ?_ (hrd:=⟨rfl,rfl,rfl,trivial⟩)|refine kF g3 [(0,0),(1,350005),(3,200163),(390001,350007)] rfl ?_ (hrd:=⟨rfl,rfl,rfl,trivial⟩)|(rw [hi])|(rw [hE])|(refine .inl ⟨in64 hi3 hi4,?_⟩)|refine kW cfg_ok ?_|refine kC ?_|refine bdA ?_|refine bd2 ?_|refine bdR ?_|refine bdL ?_)<;>((repeat (first|(with_reducible refine evCut fun N hN hE hT=>?_)|(with_reducible refine evBlk fun N hN hE hT=>?_)));(try with_reducible refine evCnd fun X Y hX hY=>?_);(conv=>whnf)))|(refine And.intro ?_ ?_;rotate_left;(conv=>whnf);rotate_right))
             refine .to (k + 1) hlt (by omega) ?_
             conv=>whnf
             repeat' (first|exact trivial|((first|((first|refine hT _ _ ?_|refine hE _ _ _ ?_|refine hN _ _ ?_);clear hN hE hT)|((first|refine hX ?_|refine hY ?_);clear hX hY)|refine kL ?_|(refine ⟨fun hb=>?_,fun hb=>?_⟩<;>(try simp only [nrm] at hb)<;>(try (first|(exfalso;omega)|contradiction|exact kB hb)))|refine kW cfg_ok ?_|refine kC ?_|refine bdA ?_|refine bd2 ?_|refine bdR ?_|refine bdL ?_)<;>((repeat (first|(with_reducible refine evCut fun N hN hE hT=>?_)|(with_reducible refine evBlk fun N hN hE hT=>?_)));(try with_reducible refine evCnd fun X Y hX hY=>?_);(conv=>whnf)))|(refine And.intro ?_ ?_;rotate_left;(conv=>whnf);rotate_right))
             · exact grow_len (t:=.i64) (f:=cellY c) Q hlt (by rw [hi2,hcy])
             · exact grow_row (t:=.i64) (f:=cellY c) Q hlt (by rw [hi2,hcy])
           · obtain rfl : k = D.length:=by omega
             rw [List.take_length]
             conv=>whnf
             repeat' (first|exact trivial|((first|((first|refine hT _ _ ?_|refine hE _ _ _ ?_|refine hN _ _ ?_);clear hN hE hT)|((first|refine hX ?_|refine hY ?_);clear hX hY)|refine kL ?_|(refine ⟨fun hb=>?_,fun hb=>?_⟩<;>(try simp only [nrm] at hb)<;>(try (first|(exfalso;omega)|contradiction|exact kB hb)))|refine kW cfg_ok ?_|refine kC ?_|refine bdA ?_|refine bd2 ?_|refine bdR ?_|refine bdL ?_)<;>((repeat (first|(with_reducible refine evCut fun N hN hE hT=>?_)|(with_reducible refine evBlk fun N hN hE hT=>?_)));(try with_reducible refine evCnd fun X Y hX hY=>?_);(conv=>whnf)))|(refine And.intro ?_ ?_;rotate_left;(conv=>whnf);rotate_right))
             all_goals first|rfl|exact List.take_length|(rw [← List.length_append];exact List.take_length)
       · rw [if_neg c16]
         refine Ev1.of_fin cfg_ok Tryz.func99 rfl (nt:=80) rfl rfl rfl ?_
         ((repeat (first|(with_reducible refine evCut fun N hN hE hT=>?_)|(with_reducible refine evBlk fun N hN hE hT=>?_)));(try with_reducible refine evCnd fun X Y hX hY=>?_);(conv=>whnf))
         repeat' (first|exact trivial|((first|((first|refine hT _ _ ?_|refine hE _ _ _ ?_|refine hN _ _ ?_);clear hN hE hT)|((first|refine hX ?_|refine hY ?_);clear hX hY)|refine kL ?_|(refine ⟨fun hb=>?_,fun hb=>?_⟩<;>(try simp only [nrm] at hb)<;>(try (first|(exfalso;omega)|contradiction|exact kB hb)))|refine kE g1 [(0,0),(1,1),(3,200039),(390001,350001)] rfl ?_ (hrd:=⟨rfl,rfl,rfl,trivial⟩)|refine kF g1 [(0,0),(1,1),(3,200039),(390001,350001)] rfl ?_ (hrd:=⟨rfl,rfl,rfl,trivial⟩)|refine kE gW1 [(0,0),(1,350001),(3,200059),(390001,350003)] rfl ?_ (hrd:=⟨rfl,rfl,rfl,trivial⟩)|refine kF gW1 [(0,0),(1,350001),(3,200059),(390001,350003)] rfl ?_ (hrd:=⟨rfl,rfl,rfl,trivial⟩)|refine kE gW2 [(1,350003),(390001,350005)] rfl ?_ (hrd:=⟨rfl,trivial⟩)|refine kF gW2 [(1,350003),(390001,350005)] rfl ?_ (hrd:=⟨rfl,trivial⟩)|refine kA htu ?_|refine kD htu ?_|refine kA hb1 ?_|refine kD hb1 ?_|refine kW cfg_ok ?_|refine kC ?_|refine bdA ?_|refine bd2 ?_|refine bdR ?_|refine bdL ?_)<;>((repeat (first|(with_reducible refine evCut fun N hN hE hT=>?_)|(with_reducible refine evBlk fun N hN hE hT=>?_)));(try with_reducible refine evCnd fun X Y hX hY=>?_);(conv=>whnf)))|(refine And.intro ?_ ?_;rotate_left;(conv=>whnf);rotate_right))
         exact take_app _ _
open Go Go.RowKit Eng
theorem okN_four {a b c d : Int} (h1 : okN a) (h2 : okN b) (h3 : okN c) (h4 : okN d) : ∀ z ∈ [a,b,c,d],okN z:=fun z hz=>by
 simp only [List.mem_cons,List.not_mem_nil,or_false] at hz
 rcases hz with rfl|rfl|rfl|rfl<;>assumption
theorem okN_three {a b c : Int} (h1 : okN a) (h2 : okN b) (h3 : okN c) : ∀ z ∈ [a,b,c],okN z:=fun z hz=>by
 simp only [List.mem_cons,List.not_mem_nil,or_false] at hz
 rcases hz with rfl|rfl|rfl<;>assumption
theorem formY_le {f : Chunk × Bool} {c : Chunk} (h : (bytesC c).length ≤ 5000) : (formY f c).length ≤ 5100:=by
 have h2 : (putY [2]).length ≤ 10:=putY_len [2]
 have h0 : (putY [0]).length ≤ 10:=putY_len [0]
 have hW : (wholeY c).length ≤ 5100:=by
   have : (uintL (bytesC c).length).length ≤ 10:=uintF_len 9 _
   unfold wholeY
   simp only [List.length_append]
   omega
 unfold formY
 split
 · split
   · omega
   · split
     · rename_i c16
       have h3:=putY_len [1,((turnS f.1 c).1.length : Int)]
       have h4:=flatMap_len (cellY c) 20 (turnS f.1 c).1 (fun i _=>cellY_len c i)
       simp only [List.length_cons,List.length_nil] at h3
       unfold cellsY
       rw [List.length_append]
       omega
     · exact hW
 · exact hW
theorem chunkY_le {v : Viw} {c : Chunk} (h : rightB c = true) : (chunkY v c).length ≤ 5200:=by
 have h1:=formY_le (f:=findV v c.x c.y) (goodC_right h).le.1
 have h2:=putY_len [c.x,c.y]
 simp only [List.length_cons,List.length_nil] at h2
 unfold chunkY
 rw [List.length_append]
 omega
theorem seenY_len (s : El .seen) : (seenY s).length ≤ 30:=putY_len _
theorem okC_emptyK : OkC emptyK:=⟨by simp [emptyK],by simp [emptyK],by simp [emptyK],by decide,by decide,by decide⟩
theorem findV_ok {v : Viw} (hb : baseB v = true) {x y : Int} : ((findV v x y).2 = true → rightB (findV v x y).1 = true) ∧ OkC (findV v x y).1:=by
 cases hf : (findV v x y).2 with
 | true =>
   have h:=base_cells hb _ (findV_spec hf).1
   exact ⟨fun _=>h,okC_right h⟩
 | false =>
   refine ⟨fun h=>Bool.noConfusion h,?_⟩
   have e : (findV v x y).1 = emptyK:=by
     unfold findV at hf ⊢
     split at hf
     · rename_i h;rw [if_pos h]
     · cases hf
   rw [e];exact okC_emptyK
noncomputable def makeE (v n : Viw) : List (El .u8) × Int:=(if makeB v n then makeY v n else [],if makeB v n then 0 else 113)
theorem make_api (v n : Viw) (hv : OkV v) (hn : OkV n) : Api Tryz.prog 37 [viewV v,viewV n] (.tup [.vec .u8 (makeE v n).1,i64 (makeE v n).2]):=by
 have hr:=vright_api n hn
 have hb1:=vbase_api v hv
 unfold makeE makeB
 cases hR : rightV n with
 | false =>
   rw [hR] at hr
   rw [Bool.false_and,if_neg (by simp),if_neg (by simp)]
   refine Api.of_fin cfg_ok Tryz.func37 rfl (nt:=108) rfl rfl ?_
   conv=>whnf
   repeat' (first|exact trivial|((first|refine kL ?_|(refine ⟨fun hb=>?_,fun hb=>?_⟩<;>(try simp only [nrm] at hb)<;>(try (first|(exfalso;omega)|contradiction|exact kB hb)))|refine kA hr ?_|refine kD hr ?_|refine kA hb1 ?_|refine kD hb1 ?_|refine kW cfg_ok ?_|refine kC ?_|refine bdA ?_|refine bd2 ?_|refine bdR ?_|refine bdL ?_)<;>(conv=>whnf))|(refine And.intro ?_ ?_;rotate_left;(conv=>whnf);rotate_right))
 | true =>
 rw [hR] at hr
 cases hB : baseB v with
 | false =>
   rw [hB] at hb1
   rw [Bool.true_and,if_neg (by simp),if_neg (by simp)]
   refine Api.of_fin cfg_ok Tryz.func37 rfl (nt:=108) rfl rfl ?_
   conv=>whnf
   repeat' (first|exact trivial|((first|refine kL ?_|(refine ⟨fun hb=>?_,fun hb=>?_⟩<;>(try simp only [nrm] at hb)<;>(try (first|(exfalso;omega)|contradiction|exact kB hb)))|refine kA hr ?_|refine kD hr ?_|refine kA hb1 ?_|refine kD hb1 ?_|refine kW cfg_ok ?_|refine kC ?_|refine bdA ?_|refine bd2 ?_|refine bdR ?_|refine bdL ?_)<;>(conv=>whnf))|(refine And.intro ?_ ?_;rotate_left;(conv=>whnf);rotate_right))
 | true =>
 rw [hB] at hb1
 rw [Bool.true_and,if_pos rfl,if_pos rfl]
 have hP:=rightV_P hR
 have p1:=hP.tick;have p2:=hP.id;have p3:=hP.x;have p4:=hP.y;have p5:=hP.w;have p6:=hP.nc;have p7:=hP.no;have p8:=hP.bag
 have p9 : n.me.offer.length ≤ 8:=by
   rcases hP.off with ⟨_,h,_⟩|⟨_,h⟩
   · rw [h];simp
   · omega
 have hag : 0 ≤ agI n.me.agrees ∧ agI n.me.agrees ≤ 1:=by unfold agI;split<;>omega
 have g1:=sput_nil [n.tick,n.me.id,n.me.x,n.me.y] _ rfl (okN_four (by unfold okN;omega) (by unfold okN;omega) (by unfold okN;omega) (by unfold okN;omega)) (by simp only [List.length_cons,List.length_nil];omega)
 have a1:=putY_len [n.tick,n.me.id,n.me.x,n.me.y]
 simp only [List.length_cons,List.length_nil] at a1
 have hY : makeY v n = putY [n.tick,n.me.id,n.me.x,n.me.y] ++ n.me.bag.flatMap slotL ++ putY [n.me.wth + 1,agI n.me.agrees] ++ n.me.offer.flatMap slotL ++ putY [(n.chunks.length : Int)] ++ n.chunks.flatMap (chunkY v) ++ putY [(n.others.length : Int)] ++ n.others.flatMap seenY:=rfl
 rw [hY]
 clear hY
 generalize putY [n.tick,n.me.id,n.me.x,n.me.y] = A1 at *
 have g2:=sslots_ev A1 A1.length n.me.bag rfl (fun s hs=>⟨(hP.bagS s hs).1,by have:=(hP.bagS s hs).2;unfold okN;omega⟩) (by omega)
 have b1:=flatMap_len slotL 20 n.me.bag (fun s _=>slotL_len s)
 generalize n.me.bag.flatMap slotL = B1 at *
 have g3:=sput_ev (A1 ++ B1) _ [n.me.wth + 1,agI n.me.agrees] _ rfl (by rw [List.length_append]) (okN_two (by unfold okN;omega) (by unfold okN;omega)) (by simp only [List.length_cons,List.length_nil,List.length_append];omega)
 have a2:=putY_len [n.me.wth + 1,agI n.me.agrees]
 simp only [List.length_cons,List.length_nil] at a2
 generalize putY [n.me.wth + 1,agI n.me.agrees] = A2 at *
 have g4:=sslots_ev (A1 ++ B1 ++ A2) _ n.me.offer (by rw [List.length_append,List.length_append]) (fun s hs=>⟨(hP.offS s hs).1,by have:=(hP.offS s hs).2;unfold okN;omega⟩) (by simp only [List.length_append];omega)
 have b2:=flatMap_len slotL 20 n.me.offer (fun s _=>slotL_len s)
 generalize n.me.offer.flatMap slotL = B2 at *
 have g5:=sput_ev (A1 ++ B1 ++ A2 ++ B2) _ [(n.chunks.length : Int)] _ rfl (by rw [List.length_append,List.length_append,List.length_append]) (okN_one (by unfold okN;omega)) (by simp only [List.length_cons,List.length_nil,List.length_append];omega)
 have a3:=putY_len [(n.chunks.length : Int)]
 simp only [List.length_cons,List.length_nil] at a3
 generalize putY [(n.chunks.length : Int)] = A3 at *
 have hQe : A1.length + B1.length + A2.length + B2.length + A3.length = (A1 ++ B1 ++ A2 ++ B2 ++ A3).length:=by simp only [List.length_append]
 have hQl : (A1 ++ B1 ++ A2 ++ B2 ++ A3).length ≤ 1000:=by simp only [List.length_append];omega
 rw [hQe] at g5
 generalize hQ : A1 ++ B1 ++ A2 ++ B2 ++ A3 = Q at *
 clear hQ hQe
 have hcl : (n.chunks.flatMap (chunkY v)).length ≤ n.chunks.length * 5200:=flatMap_len (chunkY v) 5200 n.chunks (fun c hc=>chunkY_le (hP.chunks c hc))
 have g6:=sput_ev (Q ++ n.chunks.flatMap (chunkY v)) _ [(n.others.length : Int)] _ rfl (by rw [List.length_append]) (okN_one (by unfold okN;omega)) (by simp only [List.length_cons,List.length_nil,List.length_append];omega)
 have a4:=putY_len [(n.others.length : Int)]
 simp only [List.length_cons,List.length_nil] at a4
 have hRl : (Q ++ n.chunks.flatMap (chunkY v) ++ putY [(n.others.length : Int)]).length ≤ 1000000:=by simp only [List.length_append];omega
 have hRe : Q.length + (n.chunks.flatMap (chunkY v)).length + (putY [(n.others.length : Int)]).length = (Q ++ n.chunks.flatMap (chunkY v) ++ putY [(n.others.length : Int)]).length:=by simp only [List.length_append]
 rw [hRe] at g6
 generalize hRR : Q ++ n.chunks.flatMap (chunkY v) ++ putY [(n.others.length : Int)] = R at *
 clear hRR hRe a4
 have hax : (n.me.agrees = true ∧ agI n.me.agrees = 1) ∨ (n.me.agrees = false ∧ agI n.me.agrees = 0):=by unfold agI;cases n.me.agrees<;>simp
 rcases hax with ⟨hx,hy⟩|⟨hx,hy⟩
 all_goals
   rw [hy] at g3
   refine Api.of_fin cfg_ok Tryz.func37 rfl (nt:=108) rfl rfl ?_
   ((repeat (first|(with_reducible refine evCut fun N hN hE hT=>?_)|(with_reducible refine evBlk fun N hN hE hT=>?_)));(try with_reducible refine evCnd fun X Y hX hY=>?_);(conv=>whnf))
   repeat' (first|exact trivial|((first|((first|refine hT _ _ ?_|refine hE _ _ _ ?_|refine hN _ _ ?_);clear hN hE hT)|((first|refine hX ?_|refine hY ?_);clear hX hY)|refine kL ?_|(refine ⟨fun hb=>?_,fun hb=>?_⟩<;>(try simp only [nrm] at hb)<;>(try (first|(exfalso;omega)|contradiction|exact kB hb)))|refine kE g1 [(0,48),(3,73),(390001,150001)] rfl ?_ (hrd:=⟨rfl,rfl,trivial⟩)|refine kF g1 [(0,48),(3,73),(390001,150001)] rfl ?_ (hrd:=⟨rfl,rfl,trivial⟩)|refine kE g2 [(0,48),(1,150001),(390001,150003)] rfl ?_ (hrd:=⟨rfl,rfl,trivial⟩)|refine kF g2 [(0,48),(1,150001),(390001,150003)] rfl ?_ (hrd:=⟨rfl,rfl,trivial⟩)|refine kE g3 [(0,48),(1,150003),(3,99),(390001,150005)] rfl ?_ (hrd:=⟨rfl,rfl,rfl,trivial⟩)|refine kF g3 [(0,48),(1,150003),(3,99),(390001,150005)] rfl ?_ (hrd:=⟨rfl,rfl,rfl,trivial⟩)|refine kE g4 [(0,48),(1,150005),(390001,150007)] rfl ?_ (hrd:=⟨rfl,rfl,trivial⟩)|refine kF g4 [(0,48),(1,150005),(390001,150007)] rfl ?_ (hrd:=⟨rfl,rfl,trivial⟩)|refine kE g5 [(0,48),(1,150007),(3,119),(390001,150009)] rfl ?_ (hrd:=⟨rfl,rfl,rfl,trivial⟩)|refine kF g5 [(0,48),(1,150007),(3,119),(390001,150009)] rfl ?_ (hrd:=⟨rfl,rfl,rfl,trivial⟩)|refine kA hr ?_|refine kD hr ?_|refine kA hb1 ?_|refine kD hb1 ?_|refine kW cfg_ok ?_|refine kC ?_|refine bdA ?_|refine bd2 ?_|refine bdR ?_|refine bdL ?_)<;>((repeat (first|(with_reducible refine evCut fun N hN hE hT=>?_)|(with_reducible refine evBlk fun N hN hE hT=>?_)));(try with_reducible refine evCnd fun X Y hX hY=>?_);(conv=>whnf)))|(refine And.intro ?_ ?_;rotate_left;(conv=>whnf);rotate_right))
   clear g1 g2 g3 g4 g5 hr hb1 hx hy
   refine Runs.loopS cfg_ok (σ:=Nat) [2,3,6,62,63,64] (fun k=>[.ptr 4 0,.ptr 6 0,.ptr 48 0,.vec .chunk n.chunks,i64 n.chunks.length,i64 k]) (fun k=>[(4,.box (viewC v)),(6,.box (viewC n)),(48,.box [.own .u8 150011 0 (Q.length + ((n.chunks.take k).flatMap (chunkY v)).length) none]),(150011,.row .u8 (Q ++ (n.chunks.take k).flatMap (chunkY v)))])
     (fun k=>k ≤ n.chunks.length) (fun k=>n.chunks.length - k) 0 (by omega) ?_ ?_
   · conv=>whnf
     repeat' (first|exact trivial|((first|((first|refine hT _ _ ?_|refine hE _ _ _ ?_|refine hN _ _ ?_);clear hN hE hT)|((first|refine hX ?_|refine hY ?_);clear hX hY)|refine kL ?_|(refine ⟨fun hb=>?_,fun hb=>?_⟩<;>(try simp only [nrm] at hb)<;>(try (first|(exfalso;omega)|contradiction|exact kB hb)))|refine kW cfg_ok ?_|refine kC ?_|refine bdA ?_|refine bd2 ?_|refine bdR ?_|refine bdL ?_)<;>((repeat (first|(with_reducible refine evCut fun N hN hE hT=>?_)|(with_reducible refine evBlk fun N hN hE hT=>?_)));(try with_reducible refine evCnd fun X Y hX hY=>?_);(conv=>whnf)))|(refine And.intro ?_ ?_;rotate_left;(conv=>whnf);rotate_right))
     all_goals first|rfl|(rw [List.take_length];simp;done)
   · intro k hk
     have hfl:=flatMap_len (chunkY v) 5200 (n.chunks.take k) (fun c hc=>chunkY_le (hP.chunks c (List.mem_of_mem_take hc)))
     rw [List.length_take] at hfl
     by_cases hlt : k < n.chunks.length
     · have hcr:=hP.chunks _ (elt_mem (t:=.chunk) hlt)
       obtain ⟨f1,f2⟩:=findV_ok hB (x:=(elt .chunk n.chunks k).x) (y:=(elt .chunk n.chunks k).y)
       have hfd:=vfind_api v (elt .chunk n.chunks k).x (elt .chunk n.chunks k).y (by have:=hv.nc;omega)
       have hck : chunkY v (elt .chunk n.chunks k) = putY [(elt .chunk n.chunks k).x,(elt .chunk n.chunks k).y] ++ formY (findV v (elt .chunk n.chunks k).x (elt .chunk n.chunks k).y) (elt .chunk n.chunks k):=rfl
       generalize findV v (elt .chunk n.chunks k).x (elt .chunk n.chunks k).y = F at *
       obtain ⟨was,there⟩:=F
       dsimp only at *
       have hs:=schunk_ev (Q ++ (n.chunks.take k).flatMap (chunkY v)) _ was (elt .chunk n.chunks k) there (by rw [List.length_append]) f1 f2 hcr (by simp only [List.length_append];omega)
       rw [← hck] at hs
       conv=>whnf
       repeat' (first|exact trivial|((first|((first|refine hT _ _ ?_|refine hE _ _ _ ?_|refine hN _ _ ?_);clear hN hE hT)|((first|refine hX ?_|refine hY ?_);clear hX hY)|refine kL ?_|(refine ⟨fun hb=>?_,fun hb=>?_⟩<;>(try simp only [nrm] at hb)<;>(try (first|(exfalso;omega)|contradiction|exact kB hb)))|refine kE hs [(0,48),(1,150011),(390001,150013)] rfl ?_ (hrd:=⟨rfl,rfl,trivial⟩)|refine kF hs [(0,48),(1,150011),(390001,150013)] rfl ?_ (hrd:=⟨rfl,rfl,trivial⟩)|refine kA hfd ?_|refine kD hfd ?_|refine kW cfg_ok ?_|refine kC ?_|refine bdA ?_|refine bd2 ?_|refine bdR ?_|refine bdL ?_)<;>((repeat (first|(with_reducible refine evCut fun N hN hE hT=>?_)|(with_reducible refine evBlk fun N hN hE hT=>?_)));(try with_reducible refine evCnd fun X Y hX hY=>?_);(conv=>whnf)))|(refine And.intro ?_ ?_;rotate_left;(conv=>whnf);rotate_right))
       refine .to (k + 1) hlt (by omega) ?_
       conv=>whnf
       repeat' (first|exact trivial|((first|((first|refine hT _ _ ?_|refine hE _ _ _ ?_|refine hN _ _ ?_);clear hN hE hT)|((first|refine hX ?_|refine hY ?_);clear hX hY)|refine kL ?_|(refine ⟨fun hb=>?_,fun hb=>?_⟩<;>(try simp only [nrm] at hb)<;>(try (first|(exfalso;omega)|contradiction|exact kB hb)))|refine kW cfg_ok ?_|refine kC ?_|refine bdA ?_|refine bd2 ?_|refine bdR ?_|refine bdL ?_)<;>((repeat (first|(with_reducible refine evCut fun N hN hE hT=>?_)|(with_reducible refine evBlk fun N hN hE hT=>?_)));(try with_reducible refine evCnd fun X Y hX hY=>?_);(conv=>whnf)))|(refine And.intro ?_ ?_;rotate_left;(conv=>whnf);rotate_right))
       · exact grow_len (t:=.chunk) (f:=chunkY v) Q hlt rfl
       · exact grow_row (t:=.chunk) (f:=chunkY v) Q hlt rfl
     · obtain rfl : k = n.chunks.length:=by omega
       rw [List.take_length] at hfl ⊢
       conv=>whnf
       repeat' (first|exact trivial|((first|((first|refine hT _ _ ?_|refine hE _ _ _ ?_|refine hN _ _ ?_);clear hN hE hT)|((first|refine hX ?_|refine hY ?_);clear hX hY)|refine kL ?_|(refine ⟨fun hb=>?_,fun hb=>?_⟩<;>(try simp only [nrm] at hb)<;>(try (first|(exfalso;omega)|contradiction|exact kB hb)))|refine kE g6 [(0,48),(1,150011),(3,175),(390001,150015)] rfl ?_ (hrd:=⟨rfl,rfl,rfl,trivial⟩)|refine kF g6 [(0,48),(1,150011),(3,175),(390001,150015)] rfl ?_ (hrd:=⟨rfl,rfl,rfl,trivial⟩)|refine kW cfg_ok ?_|refine kC ?_|refine bdA ?_|refine bd2 ?_|refine bdR ?_|refine bdL ?_)<;>((repeat (first|(with_reducible refine evCut fun N hN hE hT=>?_)|(with_reducible refine evBlk fun N hN hE hT=>?_)));(try with_reducible refine evCnd fun X Y hX hY=>?_);(conv=>whnf)))|(refine And.intro ?_ ?_;rotate_left;(conv=>whnf);rotate_right))
       clear g6
       refine Runs.loopS cfg_ok (σ:=Nat) [6,90,91,92] (fun k=>[.ptr 48 0,.vec .seen n.others,i64 n.others.length,i64 k]) (fun k=>[(48,.box [.own .u8 150017 0 (R.length + ((n.others.take k).flatMap seenY).length) none]),(150017,.row .u8 (R ++ (n.others.take k).flatMap seenY))])
         (fun k=>k ≤ n.others.length) (fun k=>n.others.length - k) 0 (by omega) ?_ ?_
       · conv=>whnf
         repeat' (first|exact trivial|((first|((first|refine hT _ _ ?_|refine hE _ _ _ ?_|refine hN _ _ ?_);clear hN hE hT)|((first|refine hX ?_|refine hY ?_);clear hX hY)|refine kL ?_|(refine ⟨fun hb=>?_,fun hb=>?_⟩<;>(try simp only [nrm] at hb)<;>(try (first|(exfalso;omega)|contradiction|exact kB hb)))|refine kW cfg_ok ?_|refine kC ?_|refine bdA ?_|refine bd2 ?_|refine bdR ?_|refine bdL ?_)<;>((repeat (first|(with_reducible refine evCut fun N hN hE hT=>?_)|(with_reducible refine evBlk fun N hN hE hT=>?_)));(try with_reducible refine evCnd fun X Y hX hY=>?_);(conv=>whnf)))|(refine And.intro ?_ ?_;rotate_left;(conv=>whnf);rotate_right))
         all_goals first|rfl|(rw [List.take_length];simp;done)
       · intro j hj
         have hf2:=flatMap_len seenY 30 (n.others.take j) (fun s _=>seenY_len s)
         rw [List.length_take] at hf2
         by_cases hlj : j < n.others.length
         · have ho:=hP.others _ (elt_mem (t:=.seen) hlj)
           have hs:=sput_ev (R ++ (n.others.take j).flatMap seenY) _ [(elt .seen n.others j).id,(elt .seen n.others j).x,(elt .seen n.others j).y] _ rfl (by rw [List.length_append]) (okN_three (by unfold okN;omega) (by unfold okN;omega) (by unfold okN;omega)) (by simp only [List.length_append,List.length_cons,List.length_nil];omega)
           conv=>whnf
           repeat' (first|exact trivial|((first|((first|refine hT _ _ ?_|refine hE _ _ _ ?_|refine hN _ _ ?_);clear hN hE hT)|((first|refine hX ?_|refine hY ?_);clear hX hY)|refine kL ?_|(refine ⟨fun hb=>?_,fun hb=>?_⟩<;>(try simp only [nrm] at hb)<;>(try (first|(exfalso;omega)|contradiction|exact kB hb)))|refine kE hs [(0,48),(1,150017),(3,207),(390001,150019)] rfl ?_ (hrd:=⟨rfl,rfl,rfl,trivial⟩)|refine kF hs [(0,48),(1,150017),(3,207),(390001,150019)] rfl ?_ (hrd:=⟨rfl,rfl,rfl,trivial⟩)|refine kW cfg_ok ?_|refine kC ?_|refine bdA ?_|refine bd2 ?_|refine bdR ?_|refine bdL ?_)<;>((repeat (first|(with_reducible refine evCut fun N hN hE hT=>?_)|(with_reducible refine evBlk fun N hN hE hT=>?_)));(try with_reducible refine evCnd fun X Y hX hY=>?_);(conv=>whnf)))|(refine And.intro ?_ ?_;rotate_left;(conv=>whnf);rotate_right))
           refine .to (j + 1) hlj (by omega) ?_
           conv=>whnf
           repeat' (first|exact trivial|((first|((first|refine hT _ _ ?_|refine hE _ _ _ ?_|refine hN _ _ ?_);clear hN hE hT)|((first|refine hX ?_|refine hY ?_);clear hX hY)|refine kL ?_|(refine ⟨fun hb=>?_,fun hb=>?_⟩<;>(try simp only [nrm] at hb)<;>(try (first|(exfalso;omega)|contradiction|exact kB hb)))|refine kW cfg_ok ?_|refine kC ?_|refine bdA ?_|refine bd2 ?_|refine bdR ?_|refine bdL ?_)<;>((repeat (first|(with_reducible refine evCut fun N hN hE hT=>?_)|(with_reducible refine evBlk fun N hN hE hT=>?_)));(try with_reducible refine evCnd fun X Y hX hY=>?_);(conv=>whnf)))|(refine And.intro ?_ ?_;rotate_left;(conv=>whnf);rotate_right))
           · exact grow_len (t:=.seen) (f:=seenY) R hlj rfl
           · exact grow_row (t:=.seen) (f:=seenY) R hlj rfl
         · obtain rfl : j = n.others.length:=by omega
           rw [List.take_length]
           conv=>whnf
           repeat' (first|exact trivial|((first|((first|refine hT _ _ ?_|refine hE _ _ _ ?_|refine hN _ _ ?_);clear hN hE hT)|((first|refine hX ?_|refine hY ?_);clear hX hY)|refine kL ?_|(refine ⟨fun hb=>?_,fun hb=>?_⟩<;>(try simp only [nrm] at hb)<;>(try (first|(exfalso;omega)|contradiction|exact kB hb)))|refine kW cfg_ok ?_|refine kC ?_|refine bdA ?_|refine bd2 ?_|refine bdR ?_|refine bdL ?_)<;>((repeat (first|(with_reducible refine evCut fun N hN hE hT=>?_)|(with_reducible refine evBlk fun N hN hE hT=>?_)));(try with_reducible refine evCnd fun X Y hX hY=>?_);(conv=>whnf)))|(refine And.intro ?_ ?_;rotate_left;(conv=>whnf);rotate_right))
           all_goals first|rfl|exact List.take_length|(rw [List.drop_zero];exact take_app _ _)
end Go.Proofs.YtaecchphjploaaaGreat
