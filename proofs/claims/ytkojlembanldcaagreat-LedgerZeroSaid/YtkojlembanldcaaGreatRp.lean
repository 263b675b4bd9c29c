/- What is together behind orders and ticks. -/
import Derived.Test.YtkojlembanldcaaGreatRe
import Derived.Test.YtkojlembanldcaaGreatRb
set_option linter.unusedSimpArgs false
set_option linter.unusedVariables false
set_option maxRecDepth 100000
set_option maxHeartbeats 4000000
namespace Go.Proofs.YtkojlembanldcaaGreat
open Go Go.RowKit Eng
theorem run_keep {w : Wld} (hR : RW w) (o : Order) {k : Nat} (hk : k < 13) : tw k (stepW w o).1 = tw k w + elt .i64 (deltasW w o.player o.cmd) k:=keep_law hR _ _ hk
theorem elt_tot {k : Nat} (hk : 1 ≤ k ∧ k < 13) : ∀ {L : List Slot} {C : List Int},C.length = 13 → (∀ s ∈ L,fitS s) → elt .i64 (L.foldl addI C) k = elt .i64 C k + countS L k:=by
 intro L
 induction L with
 | nil=>intro C _ _;exact (Int.add_zero _).symm
 | cons s r ih =>
   intro C hC hs
   have h1:=hs s (by simp)
   rw [List.foldl_cons,ih (by unfold addI;rw [List.length_set];exact hC) (fun x hx=>hs x (List.mem_cons_of_mem _ hx)),elt_addI hC h1]
   show _ = elt .i64 C k + (cnt k s + countS r k)
   have hc : cnt k s = if k = s.item.toNat then s.n else 0:=by
     obtain ⟨a,b,c,d⟩:=h1
     rw [show s = ⟨s.item,s.n⟩ from rfl,cnt_sel c]
     unfold sel
     by_cases h : k = s.item.toNat
     · rw [if_pos h,if_pos ⟨by omega,by omega⟩]
     · rw [if_neg h,if_neg (fun e=>h (by omega))]
   rw [hc]
   have hx : ∀ x z : Int,(if k = s.item.toNat then x + s.n else x) + z = x + ((if k = s.item.toNat then s.n else 0) + z):=by
     intro x z;split<;>omega
   exact hx _ _
theorem hv_elt (w : Wld) {k : Nat} (hk : k < 13) : elt .i64 (haveW w) k = tw k w:=by
 unfold haveW hv elt
 rw [List.getElem?_append_left (by simpa using hk),List.getElem?_map,List.getElem?_range hk];rfl
theorem countS_zero (l : List Slot) : countS l 0 = 0:=by
 induction l with
 | nil=>rfl
 | cons s r ih=>show cnt 0 s + countS r 0 = 0;rw [ih];unfold cnt;simp
theorem elt13_ext {a b : List Int} (ha : a.length = 13) (hb : b.length = 13) (h : ∀ k : Nat,k < 13 → elt .i64 a k = (elt .i64 b k : Int)) : a = b:=by
 refine List.ext_getElem? fun i=>?_
 by_cases hi : i < 13
 · have:=h i hi
   rw [elt_get .i64 a i (by omega),elt_get .i64 b i (by omega)]
   exact congrArg some this
 · rw [List.getElem?_eq_none (by omega),List.getElem?_eq_none (by omega)]
theorem cnt_have {w : Wld} (hR : RW w) : cntW w = haveW w:=by
 have hw:=okW_rw hR
 refine elt13_ext (cnt_law hw).1 (hv_len w (by omega)) fun k hk=>?_
 rw [hv_elt w hk,← count_slots]
 by_cases h0 : k = 0
 · subst h0;rw [(cnt_law hw).2.1];exact (countS_zero _).symm
 · unfold cntW
   rw [if_pos (rightW_iff.2 hR)]
   unfold tot
   rw [elt_tot ⟨by omega,hk⟩ rfl (fit_world hR hw).fit,zeros_elt k hk];exact Int.zero_add _
def mixL (C D : List Int) (k : Nat) : List Int:=(List.range k).map (fun i=>(elt .i64 C i : Int) + elt .i64 D i) ++ C.drop k
theorem mix_len {C D : List Int} (hC : C.length = 13) {k : Nat} (hk : k ≤ 13) : (mixL C D k).length = 13:=by unfold mixL;simp;omega
theorem mix_at {C D : List Int} {k : Nat} (hC : C.length = 13) (hk : k < 13) : elt .i64 (mixL C D k) k = elt .i64 C k:=by
 unfold mixL elt
 rw [List.getElem?_append_right (by simp),List.length_map,List.length_range,Nat.sub_self,List.getElem?_drop,Nat.add_zero]
theorem mix_next {C D : List Int} (hC : C.length = 13) {k : Nat} (hk : k < 13) : (mixL C D k).set k ((elt .i64 C k : Int) + elt .i64 D k) = mixL C D (k + 1):=by
 unfold mixL
 rw [List.range_succ,List.map_append,List.set_append_right _ _ (by simp)]
 simp only [List.length_map,List.length_range,Nat.sub_self,List.map_cons,List.map_nil,List.append_assoc,List.cons_append,List.nil_append]
 rw [List.drop_eq_getElem_cons (by omega),List.set_cons_zero]
theorem mix_end {C D : List Int} (hC : C.length = 13) {k : Nat} (hk : k < 13) : elt .i64 (mixL C D 13) k = (elt .i64 C k : Int) + elt .i64 D k:=by
 unfold mixL
 rw [List.drop_of_length_le (by omega),List.append_nil]
 unfold elt
 rw [List.getElem?_map,List.getElem?_range hk];rfl
theorem deltas_len (w : Wld) (id : Int) (c : Cmd) : (deltasW w id c).length = 13:=by
 unfold deltasW
 (repeat' split)<;>first|rfl|(rw [addAt_len];rfl)|(rw [addAt_len,subAll_len];rfl)
theorem have_step {w : Wld} (hR : RW w) (o : Order) : mixL (haveW w) (deltasW w o.player o.cmd) 13 = haveW (stepW w o).1:=by
 have hl : (haveW w).length = 13:=hv_len w (by omega)
 refine elt13_ext (mix_len hl (by omega)) (hv_len _ (by omega)) fun k hk=>?_
 rw [mix_end hl hk,hv_elt _ hk,hv_elt _ hk,run_keep hR o hk]
theorem have_bd {w : Wld} (hR : RW w) {k : Nat} (hk : k < 13) : inN 288230376151711744 (elt .i64 (haveW w) k):=by
 rw [hv_elt w hk,← count_slots]
 exact pre_bd hR (List.prefix_refl _) _
def foldsW : Wld → List (List Order) → Wld
 | w,[]=>w
 | w,l :: r=>foldsW (foldW w l).1 r
theorem folds_app (a b : List (List Order)) : ∀ w : Wld,foldsW w (a ++ b) = foldsW (foldsW w a) b:=by
 induction a with
 | nil=>intro w;rfl
 | cons l r ih=>intro w;exact ih _
theorem folds_rw {l : List (List Order)} : ∀ {w : Wld},RW w → RW (foldsW w l):=by
 induction l with
 | nil=>intro w h;exact h
 | cons a r ih=>intro w h;exact ih (fold_rw h a)
theorem fold_wrong {w : Wld} (h : rightW w = false) (l : List Order) : foldW w l = (w,[],113):=by unfold foldW;rw [if_pos (.inr h)]
theorem folds_wrong {l : List (List Order)} : ∀ {w : Wld},rightW w = false → foldsW w l = w:=by
 induction l with
 | nil=>intro w h;rfl
 | cons a r ih=>intro w h;show foldsW (foldW w a).1 r = w;rw [fold_wrong h];exact ih h
theorem fold_okW {w : Wld} (hw : OkW w) (l : List Order) : OkW (foldW w l).1:=by
 cases h : rightW w with
 | false=>rw [fold_wrong h];exact hw
 | true=>exact okW_rw (fold_rw (rightW_iff.1 h) l)
theorem folds_okW {l : List (List Order)} : ∀ {w : Wld},OkW w → OkW (foldsW w l):=by
 induction l with
 | nil=>intro w h;exact h
 | cons a r ih=>intro w h;exact ih (fold_okW h a)
def calmO (o : Order) : Bool:=!(decide (o.cmd.dol = 3) || (decide (o.cmd.dol = 4) || (decide (o.cmd.dol = 9) || decide (o.cmd.dol = 10))))
theorem calm_step {w : Wld} (hR : RW w) {o : Order} (h : calmO o = true) (k : Nat) (hk : k < 13) : tw k (stepW w o).1 = tw k w:=by
 rw [run_keep hR o hk]
 have hd : deltasW w o.player o.cmd = zeros13:=by
   unfold calmO at h
   simp only [Bool.not_eq_true',Bool.or_eq_false_iff,decide_eq_false_iff_not] at h
   obtain ⟨a,b,c,d⟩:=h
   unfold deltasW
   rw [if_neg a,if_neg b,if_neg d,if_neg c]
   split<;>rfl
 rw [hd,zeros_elt k hk];omega
theorem calm_run {l : List Order} : ∀ {w : Wld},RW w → (∀ o ∈ l,calmO o = true) → ∀ k : Nat,k < 13 → tw k (runW w l).1 = tw k w:=by
 induction l with
 | nil=>intro w _ _ k _;rfl
 | cons o r ih =>
   intro w hR h k hk
   show tw k (runW (stepW w o).1 r).1 = tw k w
   rw [ih (step_rw hR o) (fun x hx=>h x (List.mem_cons_of_mem _ hx)) k hk]
   exact calm_step hR (h o (by simp)) k hk
theorem calm_fold {w : Wld} (hR : RW w) {l : List Order} (h : ∀ o ∈ l,calmO o = true) (k : Nat) (hk : k < 13) : tw k (foldW w l).1 = tw k w:=by
 rcases fold_cases w l with ⟨_,e,_⟩|⟨_,_,_,e⟩
 · rw [e]
 · rw [e];exact calm_run hR (fun o ho=>h o (sorted_mem ho)) k hk
theorem calm_folds {l : List (List Order)} : ∀ {w : Wld},RW w → (∀ b ∈ l,∀ o ∈ b,calmO o = true) → ∀ k : Nat,k < 13 → tw k (foldsW w l) = tw k w:=by
 induction l with
 | nil=>intro w _ _ k _;rfl
 | cons a r ih =>
   intro w hR h k hk
   show tw k (foldsW (foldW w a).1 r) = tw k w
   rw [ih (fold_rw hR a) (fun x hx=>h x (List.mem_cons_of_mem _ hx)) k hk]
   exact calm_fold hR (h a (by simp)) k hk
theorem calm_cnt {w : Wld} {l : List (List Order)} (h : ∀ b ∈ l,∀ o ∈ b,calmO o = true) : cntW (foldsW w l) = cntW w:=by
 cases hR : rightW w with
 | false=>rw [folds_wrong hR]
 | true =>
   have hR:=rightW_iff.1 hR
   rw [cnt_have (folds_rw hR),cnt_have hR]
   refine elt13_ext (hv_len _ (by omega)) (hv_len _ (by omega)) fun k hk=>?_
   rw [hv_elt _ hk,hv_elt _ hk,calm_folds hR h k hk]
end Go.Proofs.YtkojlembanldcaaGreat
