/- view.Right, view.Same; homesteadlaw19.Great, Same. -/
import Derived.Test.YtaecchphjploaaaGreatGi
import Derived.Test.YtaecchphjploaaaGreatGk
import Derived.Test.YtaecchphjploaaaGreatGh
import Derived.Test.YtaecchphjploaaaGreatGg
set_option linter.unusedSimpArgs false
set_option linter.unusedVariables false
set_option maxRecDepth 100000
set_option maxHeartbeats 16000000
namespace Go.Proofs.YtaecchphjploaaaGreat
open Go Go.RowKit Eng
theorem vorder_api (a b : Chunk) : Api Tryz.prog 113 [.agg (cells .chunk a),.agg (cells .chunk b)] (i64 (orderI a b)):=by
 refine Api.of_fin cfg_ok Tryz.func113 rfl (nt:=15) rfl rfl ?_
 conv=>whnf
 repeat' (first|exact trivial|((first|refine kL ?_|(refine ⟨fun hb=>?_,fun hb=>?_⟩<;>(try simp only [nrm] at hb)<;>(try (first|(exfalso;omega)|contradiction|exact kB hb)))|(refine isE 134 ?_;refine kE (or_ev (cmpI a.y b.y) (cmpI a.x b.x)) [(1,31)] rfl ?_)|(refine isD 134 ?_;refine kF (or_ev (cmpI a.y b.y) (cmpI a.x b.x)) [(1,31)] rfl ?_)|(refine isE 135 ?_;refine kA (cmp_api _ _) ?_)|(refine isD 135 ?_;refine kD (cmp_api _ _) ?_)|refine kW cfg_ok ?_|refine kC ?_|refine bdA ?_|refine bd2 ?_|refine bdR ?_|refine bdL ?_)<;>(conv=>whnf))|(refine And.intro ?_ ?_;rotate_left;(conv=>whnf);rotate_right))
def wv16 : Wld:=⟨16,0,0,[],[]⟩
theorem okWv16 : OkW wv16:=⟨by simp [wv16],by simp [wv16],by simp [wv16],by decide,by decide⟩
structure OkV (v : Viw) : Prop where
 me : OkP v.me
 chunks : ∀ c ∈ v.chunks,OkC c
 nc : v.chunks.length * 88 ≤ 140737488351232
 no : v.others.length * 24 ≤ 140737488351232
def okCh (l : List Chunk) (i : Nat) : Bool:=rightB (elt .chunk l i) && (decide (i = 0) || decide (orderI (elt .chunk l (i - 1)) (elt .chunk l i) < 0))
def okOt (me : Int) (l : List Seen) (i : Nat) : Bool:=decide (0 ≤ (elt .seen l i).id ∧ (elt .seen l i).id ≤ 1073741824 ∧ (elt .seen l i).id ≠ me ∧ 0 ≤ min (elt .seen l i).x (elt .seen l i).y ∧ max (elt .seen l i).x (elt .seen l i).y < 128 ∧ (i = 0 ∨ (elt .seen l (i - 1)).id < (elt .seen l i).id))
def headV (v : Viw) : Bool:=decide ((setW wv16 v.me).2 = 0 ∧ 0 ≤ v.tick ∧ v.tick ≤ 1099511627776 ∧ v.chunks.length ≤ 49 ∧ v.others.length ≤ 32)
def rightV (v : Viw) : Bool:=headV v && (List.range v.chunks.length).all (okCh v.chunks) && (List.range v.others.length).all (okOt v.me.id v.others)
theorem all_false {f : Nat → Bool} {n k : Nat} (hk : k < n) (h : f k = false) : (List.range n).all f = false:=by
 rw [List.all_eq_false];exact ⟨k,List.mem_range.2 hk,by rw [h];simp⟩
theorem all_true {f : Nat → Bool} {n : Nat} (h : ∀ k < n,f k = true) : (List.range n).all f = true:=by
 rw [List.all_eq_true];exact fun k hk=>h k (List.mem_range.1 hk)
theorem vright_api (v : Viw) (hv : OkV v) : Api Tryz.prog 43 [viewV v] (bol (rightV v)):=by
 have hnc:=hv.nc
 have hno:=hv.no
 have hset:=api_weak (set_world wv16 v.me okWv16 hv.me) (.cons (Le.agg (.cons (Le.refl _) (.cons (Le.refl _) (.cons (Le.refl _) (.cons (Le.nil _) (.cons (Le.nil _) .nil)))))) (.cons (Le.refl _) .nil))
 by_cases hh : headV v = true
 · have hh':=hh
   unfold headV at hh'
   rw [decide_eq_true_eq] at hh'
   obtain ⟨h1,h2,h3,h4,h5⟩:=hh'
   generalize (setW wv16 v.me).1 = X at *
   generalize (setW wv16 v.me).2 = e at *
   subst h1
   have hR : rightV v = ((List.range v.chunks.length).all (okCh v.chunks) && (List.range v.others.length).all (okOt v.me.id v.others)):=by unfold rightV;rw [hh,Bool.true_and]
   rw [hR]
   clear hR hh
   refine Api.of_fin cfg_ok Tryz.func43 rfl (nt:=123) rfl rfl ?_
   conv=>whnf
   repeat' (first|exact trivial|((first|refine kL ?_|(refine ⟨fun hb=>?_,fun hb=>?_⟩<;>(try simp only [nrm] at hb)<;>(try (first|(exfalso;omega)|contradiction|exact kB hb)))|refine kA hset ?_|refine kD hset ?_|refine kW cfg_ok ?_|refine kC ?_|refine bdA ?_|refine bd2 ?_|refine bdR ?_|refine bdL ?_)<;>(conv=>whnf))|(refine And.intro ?_ ?_;rotate_left;(conv=>whnf);rotate_right))
   all_goals try omega
   refine Runs.loopS cfg_ok (σ:=Nat) [1,41,42,43] (fun k=>[.ptr 2 0,.vec .chunk v.chunks,i64 v.chunks.length,i64 k]) (fun _=>[(2,.box (viewC v))]) (fun k=>k ≤ v.chunks.length ∧ ∀ i < k,okCh v.chunks i = true) (fun k=>v.chunks.length - k) 0 ⟨by omega,by omega⟩ ?_ ?_
   · conv=>whnf
     repeat' (first|exact trivial|((first|refine kL ?_|(refine ⟨fun hb=>?_,fun hb=>?_⟩<;>(try simp only [nrm] at hb)<;>(try (first|(exfalso;omega)|contradiction|exact kB hb)))|refine kW cfg_ok ?_|refine kC ?_|refine bdA ?_|refine bd2 ?_|refine bdR ?_|refine bdL ?_)<;>(conv=>whnf))|(refine And.intro ?_ ?_;rotate_left;(conv=>whnf);rotate_right))
   · rintro k ⟨hk,hall⟩
     by_cases hlt : k < v.chunks.length
     · have hcr:=cright_api (elt .chunk v.chunks k) (hv.chunks _ (elt_mem (t:=.chunk) hlt))
       have hor:=vorder_api (elt .chunk v.chunks (((k : Nat) : Int) - 1).toNat) (elt .chunk v.chunks k)
       have hkk : (((k : Nat) : Int) - 1).toNat = k - 1:=by omega
       have hQ : okCh v.chunks k = (rightB (elt .chunk v.chunks k) && (decide (k = 0) || decide (orderI (elt .chunk v.chunks (((k : Nat) : Int) - 1).toNat) (elt .chunk v.chunks k) < 0))):=by rw [hkk];rfl
       clear hkk
       generalize orderI (elt .chunk v.chunks (((k : Nat) : Int) - 1).toNat) (elt .chunk v.chunks k) = O at *
       cases hB : rightB (elt .chunk v.chunks k) with
       | false =>
         have hF : ((List.range v.chunks.length).all (okCh v.chunks) && (List.range v.others.length).all (okOt v.me.id v.others)) = false:=by
           rw [all_false hlt (by rw [hQ,hB];rfl)];rfl
         rw [hF]
         rw [hB] at hcr
         clear hF hQ hall
         conv=>whnf
         repeat' (first|exact trivial|((first|refine kL ?_|(refine ⟨fun hb=>?_,fun hb=>?_⟩<;>(try simp only [nrm] at hb)<;>(try (first|(exfalso;omega)|contradiction|exact kB hb)))|refine kA hcr ?_|refine kD hcr ?_|refine kA hor ?_|refine kD hor ?_|refine kW cfg_ok ?_|refine kC ?_|refine bdA ?_|refine bd2 ?_|refine bdR ?_|refine bdL ?_)<;>(conv=>whnf))|(refine And.intro ?_ ?_;rotate_left;(conv=>whnf);rotate_right))
         all_goals first|rfl|omega|trace_state
       | true =>
         rw [hB] at hcr
         by_cases hO : k = 0 ∨ O < 0
         · have hT : okCh v.chunks k = true:=by
             rw [hQ,hB,Bool.true_and,Bool.or_eq_true,decide_eq_true_eq,decide_eq_true_eq];exact hO
           clear hQ
           conv=>whnf
           repeat' (first|exact trivial|((first|refine kL ?_|(refine ⟨fun hb=>?_,fun hb=>?_⟩<;>(try simp only [nrm] at hb)<;>(try (first|(exfalso;omega)|contradiction|exact kB hb)))|refine kA hcr ?_|refine kD hcr ?_|refine kA hor ?_|refine kD hor ?_|refine kW cfg_ok ?_|refine kC ?_|refine bdA ?_|refine bd2 ?_|refine bdR ?_|refine bdL ?_)<;>(conv=>whnf))|(refine And.intro ?_ ?_;rotate_left;(conv=>whnf);rotate_right))
           all_goals try omega
           all_goals
             refine .to (k + 1) ⟨hlt,fun i hi=>?_⟩ (by omega) ?_
             · by_cases hik : i = k
               · rw [hik];exact hT
               · exact hall i (by omega)
             conv=>whnf
             repeat' (first|exact trivial|((first|refine kL ?_|(refine ⟨fun hb=>?_,fun hb=>?_⟩<;>(try simp only [nrm] at hb)<;>(try (first|(exfalso;omega)|contradiction|exact kB hb)))|refine kW cfg_ok ?_|refine kC ?_|refine bdA ?_|refine bd2 ?_|refine bdR ?_|refine bdL ?_)<;>(conv=>whnf))|(refine And.intro ?_ ?_;rotate_left;(conv=>whnf);rotate_right))
         · have hF : ((List.range v.chunks.length).all (okCh v.chunks) && (List.range v.others.length).all (okOt v.me.id v.others)) = false:=by
             rw [all_false hlt (by rw [hQ,hB,Bool.true_and,Bool.or_eq_false_iff,decide_eq_false_iff_not,decide_eq_false_iff_not];exact ⟨fun h=>hO (.inl h),fun h=>hO (.inr h)⟩)];rfl
           rw [hF]
           clear hF hQ hall
           conv=>whnf
           repeat' (first|exact trivial|((first|refine kL ?_|(refine ⟨fun hb=>?_,fun hb=>?_⟩<;>(try simp only [nrm] at hb)<;>(try (first|(exfalso;omega)|contradiction|exact kB hb)))|refine kA hcr ?_|refine kD hcr ?_|refine kA hor ?_|refine kD hor ?_|refine kW cfg_ok ?_|refine kC ?_|refine bdA ?_|refine bd2 ?_|refine bdR ?_|refine bdL ?_)<;>(conv=>whnf))|(refine And.intro ?_ ?_;rotate_left;(conv=>whnf);rotate_right))
           all_goals first|rfl|omega|trace_state
     · obtain rfl : k = v.chunks.length:=by omega
       rw [all_true hall,Bool.true_and]
       conv=>whnf
       repeat' (first|exact trivial|((first|refine kL ?_|(refine ⟨fun hb=>?_,fun hb=>?_⟩<;>(try simp only [nrm] at hb)<;>(try (first|(exfalso;omega)|contradiction|exact kB hb)))|refine kW cfg_ok ?_|refine kC ?_|refine bdA ?_|refine bd2 ?_|refine bdR ?_|refine bdL ?_)<;>(conv=>whnf))|(refine And.intro ?_ ?_;rotate_left;(conv=>whnf);rotate_right))
       refine Runs.loopS cfg_ok (σ:=Nat) [1,68,69,70] (fun k=>[.ptr 2 0,.vec .seen v.others,i64 v.others.length,i64 k]) (fun _=>[(2,.box (viewC v))]) (fun k=>k ≤ v.others.length ∧ ∀ i < k,okOt v.me.id v.others i = true) (fun k=>v.others.length - k) 0 ⟨by omega,by omega⟩ ?_ ?_
       · conv=>whnf
         repeat' (first|exact trivial|((first|refine kL ?_|(refine ⟨fun hb=>?_,fun hb=>?_⟩<;>(try simp only [nrm] at hb)<;>(try (first|(exfalso;omega)|contradiction|exact kB hb)))|refine kW cfg_ok ?_|refine kC ?_|refine bdA ?_|refine bd2 ?_|refine bdR ?_|refine bdL ?_)<;>(conv=>whnf))|(refine And.intro ?_ ?_;rotate_left;(conv=>whnf);rotate_right))
       · rintro k ⟨hk,hall⟩
         by_cases hlt : k < v.others.length
         · have hkk : (((k : Nat) : Int) - 1).toNat = k - 1:=by omega
           have hQ : okOt v.me.id v.others k = true ↔ (0 ≤ (elt .seen v.others k).id ∧ (elt .seen v.others k).id ≤ 1073741824 ∧ (elt .seen v.others k).id ≠ v.me.id ∧ 0 ≤ min (elt .seen v.others k).x (elt .seen v.others k).y ∧ max (elt .seen v.others k).x (elt .seen v.others k).y < 128 ∧ (k = 0 ∨ (elt .seen v.others (((k : Nat) : Int) - 1).toNat).id < (elt .seen v.others k).id)):=by
             rw [hkk];unfold okOt;rw [decide_eq_true_eq]
           clear hkk
           by_cases hO : okOt v.me.id v.others k = true
           · have hO2:=hQ.1 hO
             clear hQ
             conv=>whnf
             repeat' (first|exact trivial|((first|refine kL ?_|(refine ⟨fun hb=>?_,fun hb=>?_⟩<;>(try simp only [nrm] at hb)<;>(try (first|(exfalso;omega)|contradiction|exact kB hb)))|refine kW cfg_ok ?_|refine kC ?_|refine bdA ?_|refine bd2 ?_|refine bdR ?_|refine bdL ?_)<;>(conv=>whnf))|(refine And.intro ?_ ?_;rotate_left;(conv=>whnf);rotate_right))
             all_goals try omega
             all_goals
               refine .to (k + 1) ⟨hlt,fun i hi=>?_⟩ (by omega) ?_
               · by_cases hik : i = k
                 · rw [hik];exact hO
                 · exact hall i (by omega)
               conv=>whnf
               repeat' (first|exact trivial|((first|refine kL ?_|(refine ⟨fun hb=>?_,fun hb=>?_⟩<;>(try simp only [nrm] at hb)<;>(try (first|(exfalso;omega)|contradiction|exact kB hb)))|refine kW cfg_ok ?_|refine kC ?_|refine bdA ?_|refine bd2 ?_|refine bdR ?_|refine bdL ?_)<;>(conv=>whnf))|(refine And.intro ?_ ?_;rotate_left;(conv=>whnf);rotate_right))
           · have hF:=all_false hlt (Bool.eq_false_iff.2 hO)
             rw [hF]
             have hO2 : ¬ (0 ≤ (elt .seen v.others k).id ∧ (elt .seen v.others k).id ≤ 1073741824 ∧ (elt .seen v.others k).id ≠ v.me.id ∧ 0 ≤ min (elt .seen v.others k).x (elt .seen v.others k).y ∧ max (elt .seen v.others k).x (elt .seen v.others k).y < 128 ∧ (k = 0 ∨ (elt .seen v.others (((k : Nat) : Int) - 1).toNat).id < (elt .seen v.others k).id)):=fun h=>hO (hQ.2 h)
             clear hQ hF hO hall
             conv=>whnf
             repeat' (first|exact trivial|((first|refine kL ?_|(refine ⟨fun hb=>?_,fun hb=>?_⟩<;>(try simp only [nrm] at hb)<;>(try (first|(exfalso;omega)|contradiction|exact kB hb)))|refine kW cfg_ok ?_|refine kC ?_|refine bdA ?_|refine bd2 ?_|refine bdR ?_|refine bdL ?_)<;>(conv=>whnf))|(refine And.intro ?_ ?_;rotate_left;(conv=>whnf);rotate_right))
             all_goals first|rfl|omega|trace_state
         · obtain rfl : k = v.others.length:=by omega
           rw [all_true hall]
           conv=>whnf
           repeat' (first|exact trivial|((first|refine kL ?_|(refine ⟨fun hb=>?_,fun hb=>?_⟩<;>(try simp only [nrm] at hb)<;>(try (first|(exfalso;omega)|contradiction|exact kB hb)))|refine kW cfg_ok ?_|refine kC ?_|refine bdA ?_|refine bd2 ?_|refine bdR ?_|refine bdL ?_)<;>(conv=>whnf))|(refine And.intro ?_ ?_;rotate_left;(conv=>whnf);rotate_right))
 · have hR : rightV v = false:=by unfold rightV;rw [Bool.eq_false_iff.2 hh];rfl
   rw [hR]
   have hh' : ¬ ((setW wv16 v.me).2 = 0 ∧ 0 ≤ v.tick ∧ v.tick ≤ 1099511627776 ∧ v.chunks.length ≤ 49 ∧ v.others.length ≤ 32):=by
     intro h;exact hh (by unfold headV;rw [decide_eq_true_eq];exact h)
   have hn:=set_num wv16 v.me
   generalize (setW wv16 v.me).1 = X at *
   generalize (setW wv16 v.me).2 = e at *
   refine Api.of_fin cfg_ok Tryz.func43 rfl (nt:=123) rfl rfl ?_
   conv=>whnf
   repeat' (first|exact trivial|((first|refine kL ?_|(refine ⟨fun hb=>?_,fun hb=>?_⟩<;>(try simp only [nrm] at hb)<;>(try (first|(exfalso;omega)|contradiction|exact kB hb)))|refine kA hset ?_|refine kD hset ?_|refine kW cfg_ok ?_|refine kC ?_|refine bdA ?_|refine bd2 ?_|refine bdR ?_|refine bdL ?_)<;>(conv=>whnf))|(refine And.intro ?_ ?_;rotate_left;(conv=>whnf);rotate_right))
   all_goals first|omega|rfl|trace_state
open Go Go.RowKit Eng
theorem rowV_mem {w : Wld} {p : Player} {r : Int} {y k : Nat} {c : Chunk} (h : c ∈ rowV w p r y k) : ∃ x : Nat,x < k ∧ seesB p r (x : Nat) (y : Nat) = true ∧ c = (chunkW w (x : Nat) (y : Nat)).1:=by
 unfold rowV at h
 obtain ⟨x,hx,rfl⟩:=List.mem_map.1 h
 obtain ⟨h1,h2⟩:=List.mem_filter.1 hx
 exact ⟨x,List.mem_range.1 h1,h2,rfl⟩
theorem rowsV_mem {w : Wld} {p : Player} {r : Int} {s y : Nat} {c : Chunk} (h : c ∈ rowsV w p r s y) : ∃ b : Nat,b < y ∧ ∃ x : Nat,x < s ∧ seesB p r (x : Nat) (b : Nat) = true ∧ c = (chunkW w (x : Nat) (b : Nat)).1:=by
 induction y with
 | zero=>simp [rowsV] at h
 | succ y ih =>
   rw [rowsV] at h
   rcases List.mem_append.1 h with h|h
   · obtain ⟨b,hb,hr⟩:=ih h;exact ⟨b,by omega,hr⟩
   · exact ⟨y,by omega,rowV_mem h⟩
theorem risesK_append {α : Type} {key : α → Int} {A B : List α} (ha : risesK key A) (hb : risesK key B) (h : ∀ a ∈ A,∀ b ∈ B,key a < key b) : risesK key (A ++ B):=by
 induction A with
 | nil=>exact hb
 | cons a r ih =>
   refine ⟨fun x hx=>?_,ih ha.2 fun a ha b hb=>h a (List.mem_cons_of_mem _ ha) b hb⟩
   rcases List.mem_append.1 hx with hx|hx
   · exact ha.1 x hx
   · exact h a (List.mem_cons_self ..) x hx
theorem risesK_filter {α : Type} {key : α → Int} {f : α → Bool} {l : List α} (h : risesK key l) : risesK key (l.filter f):=by
 induction l with
 | nil=>exact h
 | cons a r ih =>
   cases hf : f a with
   | true=>rw [List.filter_cons_of_pos hf];exact ⟨fun x hx=>h.1 x (List.mem_filter.1 hx).1,ih h.2⟩
   | false=>rw [List.filter_cons_of_neg (by rw [hf];simp)];exact ih h.2
theorem risesK_map {α β : Type} {key : α → Int} {kb : β → Int} {f : α → β} {l : List α} (hk : ∀ a,kb (f a) = key a) (h : risesK key l) : risesK kb (l.map f):=by
 induction l with
 | nil=>trivial
 | cons a r ih =>
   refine ⟨fun x hx=>?_,ih h.2⟩
   obtain ⟨b,hb,rfl⟩:=List.mem_map.1 hx
   rw [hk,hk];exact h.1 b hb
theorem seen_at {w : Wld} (hR : RW w) {x y : Nat} (hx : (x : Int) < w.size) (hy : (y : Int) < w.size) : rightB (chunkW w (x : Nat) (y : Nat)).1 = true ∧ (chunkW w (x : Nat) (y : Nat)).1.x = x ∧ (chunkW w (x : Nat) (y : Nat)).1.y = y ∧ (chunkW w (x : Nat) (y : Nat)).2 = true:=by
 obtain ⟨h1,h2,h3⟩:=chunkW_in hR (x:=(x : Nat)) (y:=(y : Nat)) ⟨by omega,hx⟩ ⟨by omega,hy⟩
 exact ⟨chunk_right hR ⟨by omega,hx⟩ ⟨by omega,hy⟩,h2,h3,by rw [h1]⟩
theorem rowV_rises {w : Wld} (hR : RW w) {p : Player} {r : Int} {y k : Nat} (hy : (y : Int) < w.size) (hk : (k : Int) ≤ w.size) : risesK keyC (rowV w p r y k):=by
 induction k with
 | zero=>trivial
 | succ k ih =>
   rw [rowV_succ]
   refine risesK_append (ih (by omega)) ?_ fun a ha b hb=>?_
   · split
     · exact ⟨fun x hx=>(by cases hx),trivial⟩
     · trivial
   · obtain ⟨x,hx,_,rfl⟩:=rowV_mem ha
     split at hb
     · obtain rfl:=List.mem_singleton.1 hb
       obtain ⟨_,h1,h2,_⟩:=seen_at hR (x:=x) (y:=y) (by omega) hy
       obtain ⟨_,h3,h4,_⟩:=seen_at hR (x:=k) (y:=y) (by omega) hy
       unfold keyC;omega
     · cases hb
theorem rowsV_rises {w : Wld} (hR : RW w) {p : Player} {r : Int} {s y : Nat} (hs : (s : Int) ≤ w.size) (hy : (y : Int) ≤ w.size) : risesK keyC (rowsV w p r s y):=by
 have hsz:=hR.size
 induction y with
 | zero=>trivial
 | succ y ih =>
   rw [rowsV]
   refine risesK_append (ih (by omega)) (rowV_rises hR (by omega) hs) fun a ha b hb=>?_
   obtain ⟨v,hv,x,hx,_,rfl⟩:=rowsV_mem ha
   obtain ⟨z,hz,_,rfl⟩:=rowV_mem hb
   obtain ⟨_,h1,h2,_⟩:=seen_at hR (x:=x) (y:=v) (by omega) (by omega)
   obtain ⟨_,h3,h4,_⟩:=seen_at hR (x:=z) (y:=y) (by omega) (by omega)
   unfold keyC;omega
theorem rwv16 : RW wv16:=rightW_iff.1 (by kernel_rfl)
theorem of_right {w : Wld} {id r : Int} (h : (ofW w id r).2 = 0) : rightV (ofW w id r).1 = true:=by
 obtain ⟨hr0,hr3,hR,hP,hof⟩:=ofW_ok h
 obtain ⟨hmem,hid⟩:=player_mem hP
 have hsz:=hR.size
 obtain ⟨hso,hwi⟩:=hR.players _ hmem
 have hwi2:=(within_iff hR).1 hwi
 rw [hof]
 have hset : setOk wv16 (playerW w id).1:=⟨rwv16,hso,(within_iff rwv16).2 (by have h16 : wv16.size = 16:=rfl;omega),.inr (by decide)⟩
 have hx:=cnt_side (a:=(playerW w id).1.x / 8) (r:=r) (S:=w.size.toNat) (by omega) (by omega) (by omega)
 have hy:=cnt_side (a:=(playerW w id).1.y / 8) (r:=r) (S:=w.size.toNat) (by omega) (by omega) (by omega)
 have hcn:=rowsV_cnt w (playerW w id).1 r w.size.toNat w.size.toNat
 have h49 : cntI ((playerW w id).1.x / 8) r w.size.toNat * cntI ((playerW w id).1.y / 8) r w.size.toNat ≤ 7 * 7:=Nat.mul_le_mul (by omega) (by omega)
 have hol:=othV_len w.players (playerW w id).1 r id w.players.length
 have hrc:=rowsV_rises hR (p:=(playerW w id).1) (r:=r) (s:=w.size.toNat) (y:=w.size.toNat) (by omega) (by omega)
 have hro : risesK (fun s : Seen=>s.id) (othV w.players (playerW w id).1 r id w.players.length):=by
   unfold othV
   rw [List.take_length]
   exact risesK_map (key:=pid) (fun a=>rfl) (risesK_filter hR.rp)
 have hme : (playerW w id).1.id = id:=hid
 have hch : ∀ c ∈ rowsV w (playerW w id).1 r w.size.toNat w.size.toNat,rightB c = true ∧ 0 ≤ c.x ∧ c.x < 16:=by
   intro c hc
   obtain ⟨v,hv,x,hx,_,rfl⟩:=rowsV_mem hc
   obtain ⟨h1,h2,_,_⟩:=seen_at hR (x:=x) (y:=v) (by omega) (by omega)
   exact ⟨h1,by omega,by omega⟩
 have hot : ∀ s ∈ othV w.players (playerW w id).1 r id w.players.length,0 ≤ s.id ∧ s.id ≤ 1073741824 ∧ s.id ≠ id ∧ 0 ≤ s.x ∧ s.x < 128 ∧ 0 ≤ s.y ∧ s.y < 128:=by
   intro s hs
   unfold othV at hs
   rw [List.take_length] at hs
   obtain ⟨q,hq,rfl⟩:=List.mem_map.1 hs
   obtain ⟨hq1,hq2⟩:=List.mem_filter.1 hq
   obtain ⟨b1,b2,b3,b4⟩:=within_bd hR hq1
   have hsq:=(hR.players _ hq1).1
   unfold othB at hq2
   simp only [Bool.and_eq_true,Bool.not_eq_true',decide_eq_false_iff_not] at hq2
   simp only [soundB,Bool.and_eq_true,decide_eq_true_eq] at hsq
   exact ⟨by show 0 ≤ q.id;omega,by show q.id ≤ _;omega,hq2.1,b1,b2,b3,b4⟩
 generalize rowsV w (playerW w id).1 r w.size.toNat w.size.toNat = C at *
 generalize othV w.players (playerW w id).1 r id w.players.length = O at *
 unfold rightV headV
 simp only [Bool.and_eq_true,decide_eq_true_eq,List.all_eq_true,List.mem_range]
 refine ⟨⟨⟨?_,by omega,by omega,by omega,by omega⟩,fun i hi=>?_⟩,fun i hi=>?_⟩
 · rw [set_eq hset]
 · have hm:=hch _ (elt_mem (t:=.chunk) hi)
   unfold okCh
   rw [hm.1,Bool.true_and,Bool.or_eq_true,decide_eq_true_eq,decide_eq_true_eq]
   by_cases h0 : i = 0
   · exact .inl h0
   · refine .inr ?_
     have hk:=risesK_lt hrc (i:=i - 1) (j:=i) (by omega) (elt_get .chunk C (i - 1) (by omega)) (elt_get .chunk C i hi)
     have hm2:=hch _ (elt_mem (t:=.chunk) (l:=C) (i:=i - 1) (by omega))
     generalize elt .chunk C i = b at *
     generalize elt .chunk C (i - 1) = a at *
     have h1:=hm.2
     have h2:=hm2.2
     unfold orderI cmpOr cmpI
     unfold keyC at hk
     (repeat' split)<;>omega
 · have hm:=hot _ (elt_mem (t:=.seen) hi)
   unfold okOt
   rw [decide_eq_true_eq]
   refine ⟨hm.1,hm.2.1,by rw [hme];exact hm.2.2.1,by omega,by omega,?_⟩
   by_cases h0 : i = 0
   · exact .inl h0
   · exact .inr (risesK_lt hro (i:=i - 1) (j:=i) (by omega) (elt_get .seen O (i - 1) (by omega)) (elt_get .seen O i hi))
open Go Go.RowKit Eng
theorem eqv_len {α : Type} {a b : List α} (h : ¬ a.length = b.length) : eqv a b = false:=eqv_false.2 fun e=>h (congrArg List.length e)
theorem eqv_take {tt : Ty} {a b : List (El tt)} {k : Nat} (h : ¬ elt tt a k = elt tt b k) : eqv a b = false:=eqv_false.2 fun e=>h (by rw [e])
theorem eqv_all {tt : Ty} {a b : List (El tt)} (hl : a.length = b.length) (h : ∀ i < a.length,elt tt a i = elt tt b i) : eqv a b = true:=eqv_iff.2 (elt_ext hl h)
theorem slot_ext {a b : Slot} (h1 : a.item = b.item) (h2 : a.n = b.n) : a = b:=by cases a;cases b;simp_all
theorem seen_ext {a b : Seen} (h1 : a.id = b.id) (h2 : a.x = b.x) (h3 : a.y = b.y) : a = b:=by cases a;cases b;simp_all
theorem eqSlots_api (a b : List (El .slot)) (ha : a.length ≤ 9000000000000000000) : Api Tryz.prog 114 [.vec .slot a,.vec .slot b] (bol (eqv a b)):=by
 by_cases hl : a.length = b.length
 · skip
   refine Api.of_fin cfg_ok Tryz.func114 rfl (nt:=24) rfl rfl ?_
   conv=>whnf
   repeat' (first|exact trivial|((first|refine kL ?_|(refine ⟨fun hb=>?_,fun hb=>?_⟩<;>(try simp only [nrm] at hb)<;>(try (first|(exfalso;omega)|contradiction|exact kB hb)))|refine kW cfg_ok ?_|refine kC ?_|refine bdA ?_|refine bd2 ?_|refine bdR ?_|refine bdL ?_)<;>(conv=>whnf))|(refine And.intro ?_ ?_;rotate_left;(conv=>whnf);rotate_right))
   all_goals try omega
   refine Runs.loopS cfg_ok (σ:=Nat) [0,1,12,13] (fun k=>[.vec .slot a,.vec .slot b,i64 a.length,i64 k]) (fun _=>[]) (fun k=>k ≤ a.length ∧ ∀ i < k,elt .slot a i = elt .slot b i) (fun k=>a.length - k) 0 ⟨by omega,by omega⟩ ?_ ?_
   · conv=>whnf
     repeat' (first|exact trivial|((first|refine kL ?_|(refine ⟨fun hb=>?_,fun hb=>?_⟩<;>(try simp only [nrm] at hb)<;>(try (first|(exfalso;omega)|contradiction|exact kB hb)))|refine kW cfg_ok ?_|refine kC ?_|refine bdA ?_|refine bd2 ?_|refine bdR ?_|refine bdL ?_)<;>(conv=>whnf))|(refine And.intro ?_ ?_;rotate_left;(conv=>whnf);rotate_right))
   · rintro k ⟨hk,ht⟩
     by_cases hlt : k < a.length
     · conv=>whnf
       repeat' (first|exact trivial|((first|refine kL ?_|(refine ⟨fun hb=>?_,fun hb=>?_⟩<;>(try simp only [nrm] at hb)<;>(try (first|(exfalso;omega)|contradiction|exact kB hb)))|refine kW cfg_ok ?_|refine kC ?_|refine bdA ?_|refine bd2 ?_|refine bdR ?_|refine bdL ?_)<;>(conv=>whnf))|(refine And.intro ?_ ?_;rotate_left;(conv=>whnf);rotate_right))
       · exact congrArg Value.bool (eqv_take (tt:=.slot) (k:=k) fun e=>by rw [e] at hb;simp at hb)
       · refine .to (k + 1) ⟨by omega,fun i hi=>?_⟩ (by omega) ?_
         · by_cases hik : i = k
           · subst hik;exact slot_ext (by simp_all) (by simp_all)
           · exact ht i (by omega)
         conv=>whnf
         repeat' (first|exact trivial|((first|refine kL ?_|(refine ⟨fun hb=>?_,fun hb=>?_⟩<;>(try simp only [nrm] at hb)<;>(try (first|(exfalso;omega)|contradiction|exact kB hb)))|refine kW cfg_ok ?_|refine kC ?_|refine bdA ?_|refine bd2 ?_|refine bdR ?_|refine bdL ?_)<;>(conv=>whnf))|(refine And.intro ?_ ?_;rotate_left;(conv=>whnf);rotate_right))
     · obtain rfl : k = a.length:=by omega
       conv=>whnf
       repeat' (first|exact trivial|((first|refine kL ?_|(refine ⟨fun hb=>?_,fun hb=>?_⟩<;>(try simp only [nrm] at hb)<;>(try (first|(exfalso;omega)|contradiction|exact kB hb)))|refine kW cfg_ok ?_|refine kC ?_|refine bdA ?_|refine bd2 ?_|refine bdR ?_|refine bdL ?_)<;>(conv=>whnf))|(refine And.intro ?_ ?_;rotate_left;(conv=>whnf);rotate_right))
       exact congrArg Value.bool (eqv_all (tt:=.slot) hl ht)
 · skip
   refine Api.of_fin cfg_ok Tryz.func114 rfl (nt:=24) rfl rfl ?_
   conv=>whnf
   repeat' (first|exact trivial|((first|refine kL ?_|(refine ⟨fun hb=>?_,fun hb=>?_⟩<;>(try simp only [nrm] at hb)<;>(try (first|(exfalso;omega)|contradiction|exact kB hb)))|refine kW cfg_ok ?_|refine kC ?_|refine bdA ?_|refine bd2 ?_|refine bdR ?_|refine bdL ?_)<;>(conv=>whnf))|(refine And.intro ?_ ?_;rotate_left;(conv=>whnf);rotate_right))
   all_goals first|omega|exact congrArg Value.bool (eqv_len hl)
theorem eqHeaps_api (a b : List (El .heap)) (ha : a.length ≤ 9000000000000000000) : Api Tryz.prog 164 [.vec .heap a,.vec .heap b] (bol (eqv a b)):=by
 by_cases hl : a.length = b.length
 · skip
   refine Api.of_fin cfg_ok Tryz.func164 rfl (nt:=24) rfl rfl ?_
   conv=>whnf
   repeat' (first|exact trivial|((first|refine kL ?_|(refine ⟨fun hb=>?_,fun hb=>?_⟩<;>(try simp only [nrm] at hb)<;>(try (first|(exfalso;omega)|contradiction|exact kB hb)))|refine kW cfg_ok ?_|refine kC ?_|refine bdA ?_|refine bd2 ?_|refine bdR ?_|refine bdL ?_)<;>(conv=>whnf))|(refine And.intro ?_ ?_;rotate_left;(conv=>whnf);rotate_right))
   all_goals try omega
   refine Runs.loopS cfg_ok (σ:=Nat) [0,1,12,13] (fun k=>[.vec .heap a,.vec .heap b,i64 a.length,i64 k]) (fun _=>[]) (fun k=>k ≤ a.length ∧ ∀ i < k,elt .heap a i = elt .heap b i) (fun k=>a.length - k) 0 ⟨by omega,by omega⟩ ?_ ?_
   · conv=>whnf
     repeat' (first|exact trivial|((first|refine kL ?_|(refine ⟨fun hb=>?_,fun hb=>?_⟩<;>(try simp only [nrm] at hb)<;>(try (first|(exfalso;omega)|contradiction|exact kB hb)))|refine kW cfg_ok ?_|refine kC ?_|refine bdA ?_|refine bd2 ?_|refine bdR ?_|refine bdL ?_)<;>(conv=>whnf))|(refine And.intro ?_ ?_;rotate_left;(conv=>whnf);rotate_right))
   · rintro k ⟨hk,ht⟩
     by_cases hlt : k < a.length
     · conv=>whnf
       repeat' (first|exact trivial|((first|refine kL ?_|(refine ⟨fun hb=>?_,fun hb=>?_⟩<;>(try simp only [nrm] at hb)<;>(try (first|(exfalso;omega)|contradiction|exact kB hb)))|refine kW cfg_ok ?_|refine kC ?_|refine bdA ?_|refine bd2 ?_|refine bdR ?_|refine bdL ?_)<;>(conv=>whnf))|(refine And.intro ?_ ?_;rotate_left;(conv=>whnf);rotate_right))
       · exact congrArg Value.bool (eqv_take (tt:=.heap) (k:=k) fun e=>by rw [e] at hb;simp at hb)
       · refine .to (k + 1) ⟨by omega,fun i hi=>?_⟩ (by omega) ?_
         · by_cases hik : i = k
           · subst hik;exact heap_ext (by simp_all) (by simp_all) (by simp_all)
           · exact ht i (by omega)
         conv=>whnf
         repeat' (first|exact trivial|((first|refine kL ?_|(refine ⟨fun hb=>?_,fun hb=>?_⟩<;>(try simp only [nrm] at hb)<;>(try (first|(exfalso;omega)|contradiction|exact kB hb)))|refine kW cfg_ok ?_|refine kC ?_|refine bdA ?_|refine bd2 ?_|refine bdR ?_|refine bdL ?_)<;>(conv=>whnf))|(refine And.intro ?_ ?_;rotate_left;(conv=>whnf);rotate_right))
     · obtain rfl : k = a.length:=by omega
       conv=>whnf
       repeat' (first|exact trivial|((first|refine kL ?_|(refine ⟨fun hb=>?_,fun hb=>?_⟩<;>(try simp only [nrm] at hb)<;>(try (first|(exfalso;omega)|contradiction|exact kB hb)))|refine kW cfg_ok ?_|refine kC ?_|refine bdA ?_|refine bd2 ?_|refine bdR ?_|refine bdL ?_)<;>(conv=>whnf))|(refine And.intro ?_ ?_;rotate_left;(conv=>whnf);rotate_right))
       exact congrArg Value.bool (eqv_all (tt:=.heap) hl ht)
 · skip
   refine Api.of_fin cfg_ok Tryz.func164 rfl (nt:=24) rfl rfl ?_
   conv=>whnf
   repeat' (first|exact trivial|((first|refine kL ?_|(refine ⟨fun hb=>?_,fun hb=>?_⟩<;>(try simp only [nrm] at hb)<;>(try (first|(exfalso;omega)|contradiction|exact kB hb)))|refine kW cfg_ok ?_|refine kC ?_|refine bdA ?_|refine bd2 ?_|refine bdR ?_|refine bdL ?_)<;>(conv=>whnf))|(refine And.intro ?_ ?_;rotate_left;(conv=>whnf);rotate_right))
   all_goals first|omega|exact congrArg Value.bool (eqv_len hl)
theorem eqSeens_api (a b : List (El .seen)) (ha : a.length ≤ 9000000000000000000) : Api Tryz.prog 117 [.vec .seen a,.vec .seen b] (bol (eqv a b)):=by
 by_cases hl : a.length = b.length
 · skip
   refine Api.of_fin cfg_ok Tryz.func117 rfl (nt:=24) rfl rfl ?_
   conv=>whnf
   repeat' (first|exact trivial|((first|refine kL ?_|(refine ⟨fun hb=>?_,fun hb=>?_⟩<;>(try simp only [nrm] at hb)<;>(try (first|(exfalso;omega)|contradiction|exact kB hb)))|refine kW cfg_ok ?_|refine kC ?_|refine bdA ?_|refine bd2 ?_|refine bdR ?_|refine bdL ?_)<;>(conv=>whnf))|(refine And.intro ?_ ?_;rotate_left;(conv=>whnf);rotate_right))
   all_goals try omega
   refine Runs.loopS cfg_ok (σ:=Nat) [0,1,12,13] (fun k=>[.vec .seen a,.vec .seen b,i64 a.length,i64 k]) (fun _=>[]) (fun k=>k ≤ a.length ∧ ∀ i < k,elt .seen a i = elt .seen b i) (fun k=>a.length - k) 0 ⟨by omega,by omega⟩ ?_ ?_
   · conv=>whnf
     repeat' (first|exact trivial|((first|refine kL ?_|(refine ⟨fun hb=>?_,fun hb=>?_⟩<;>(try simp only [nrm] at hb)<;>(try (first|(exfalso;omega)|contradiction|exact kB hb)))|refine kW cfg_ok ?_|refine kC ?_|refine bdA ?_|refine bd2 ?_|refine bdR ?_|refine bdL ?_)<;>(conv=>whnf))|(refine And.intro ?_ ?_;rotate_left;(conv=>whnf);rotate_right))
   · rintro k ⟨hk,ht⟩
     by_cases hlt : k < a.length
     · conv=>whnf
       repeat' (first|exact trivial|((first|refine kL ?_|(refine ⟨fun hb=>?_,fun hb=>?_⟩<;>(try simp only [nrm] at hb)<;>(try (first|(exfalso;omega)|contradiction|exact kB hb)))|refine kW cfg_ok ?_|refine kC ?_|refine bdA ?_|refine bd2 ?_|refine bdR ?_|refine bdL ?_)<;>(conv=>whnf))|(refine And.intro ?_ ?_;rotate_left;(conv=>whnf);rotate_right))
       · exact congrArg Value.bool (eqv_take (tt:=.seen) (k:=k) fun e=>by rw [e] at hb;simp at hb)
       · refine .to (k + 1) ⟨by omega,fun i hi=>?_⟩ (by omega) ?_
         · by_cases hik : i = k
           · subst hik;exact seen_ext (by simp_all) (by simp_all) (by simp_all)
           · exact ht i (by omega)
         conv=>whnf
         repeat' (first|exact trivial|((first|refine kL ?_|(refine ⟨fun hb=>?_,fun hb=>?_⟩<;>(try simp only [nrm] at hb)<;>(try (first|(exfalso;omega)|contradiction|exact kB hb)))|refine kW cfg_ok ?_|refine kC ?_|refine bdA ?_|refine bd2 ?_|refine bdR ?_|refine bdL ?_)<;>(conv=>whnf))|(refine And.intro ?_ ?_;rotate_left;(conv=>whnf);rotate_right))
     · obtain rfl : k = a.length:=by omega
       conv=>whnf
       repeat' (first|exact trivial|((first|refine kL ?_|(refine ⟨fun hb=>?_,fun hb=>?_⟩<;>(try simp only [nrm] at hb)<;>(try (first|(exfalso;omega)|contradiction|exact kB hb)))|refine kW cfg_ok ?_|refine kC ?_|refine bdA ?_|refine bd2 ?_|refine bdR ?_|refine bdL ?_)<;>(conv=>whnf))|(refine And.intro ?_ ?_;rotate_left;(conv=>whnf);rotate_right))
       exact congrArg Value.bool (eqv_all (tt:=.seen) hl ht)
 · skip
   refine Api.of_fin cfg_ok Tryz.func117 rfl (nt:=24) rfl rfl ?_
   conv=>whnf
   repeat' (first|exact trivial|((first|refine kL ?_|(refine ⟨fun hb=>?_,fun hb=>?_⟩<;>(try simp only [nrm] at hb)<;>(try (first|(exfalso;omega)|contradiction|exact kB hb)))|refine kW cfg_ok ?_|refine kC ?_|refine bdA ?_|refine bd2 ?_|refine bdR ?_|refine bdL ?_)<;>(conv=>whnf))|(refine And.intro ?_ ?_;rotate_left;(conv=>whnf);rotate_right))
   all_goals first|omega|exact congrArg Value.bool (eqv_len hl)
theorem eqCells_api (a b : List (El .u8)) (ha : a.length ≤ 9000000000000000000) : Api Tryz.prog 142 [.vec .u8 a,.vec .u8 b] (bol (eqv a b)):=by
 by_cases hl : a.length = b.length
 · skip
   refine Api.of_fin cfg_ok Tryz.func142 rfl (nt:=24) rfl rfl ?_
   conv=>whnf
   repeat' (first|exact trivial|((first|refine kL ?_|(refine ⟨fun hb=>?_,fun hb=>?_⟩<;>(try simp only [nrm] at hb)<;>(try (first|(exfalso;omega)|contradiction|exact kB hb)))|refine kW cfg_ok ?_|refine kC ?_|refine bdA ?_|refine bd2 ?_|refine bdR ?_|refine bdL ?_)<;>(conv=>whnf))|(refine And.intro ?_ ?_;rotate_left;(conv=>whnf);rotate_right))
   all_goals try omega
   refine Runs.loopS cfg_ok (σ:=Nat) [0,1,12,13] (fun k=>[.vec .u8 a,.vec .u8 b,i64 a.length,i64 k]) (fun _=>[]) (fun k=>k ≤ a.length ∧ ∀ i < k,elt .u8 a i = elt .u8 b i) (fun k=>a.length - k) 0 ⟨by omega,by omega⟩ ?_ ?_
   · conv=>whnf
     repeat' (first|exact trivial|((first|refine kL ?_|(refine ⟨fun hb=>?_,fun hb=>?_⟩<;>(try simp only [nrm] at hb)<;>(try (first|(exfalso;omega)|contradiction|exact kB hb)))|refine kW cfg_ok ?_|refine kC ?_|refine bdA ?_|refine bd2 ?_|refine bdR ?_|refine bdL ?_)<;>(conv=>whnf))|(refine And.intro ?_ ?_;rotate_left;(conv=>whnf);rotate_right))
   · rintro k ⟨hk,ht⟩
     by_cases hlt : k < a.length
     · conv=>whnf
       repeat' (first|exact trivial|((first|refine kL ?_|(refine ⟨fun hb=>?_,fun hb=>?_⟩<;>(try simp only [nrm] at hb)<;>(try (first|(exfalso;omega)|contradiction|exact kB hb)))|refine kW cfg_ok ?_|refine kC ?_|refine bdA ?_|refine bd2 ?_|refine bdR ?_|refine bdL ?_)<;>(conv=>whnf))|(refine And.intro ?_ ?_;rotate_left;(conv=>whnf);rotate_right))
       · exact congrArg Value.bool (eqv_take (tt:=.u8) (k:=k) fun e=>by rw [e] at hb;simp at hb)
       · refine .to (k + 1) ⟨by omega,fun i hi=>?_⟩ (by omega) ?_
         · by_cases hik : i = k
           · subst hik;exact hb
           · exact ht i (by omega)
         conv=>whnf
         repeat' (first|exact trivial|((first|refine kL ?_|(refine ⟨fun hb=>?_,fun hb=>?_⟩<;>(try simp only [nrm] at hb)<;>(try (first|(exfalso;omega)|contradiction|exact kB hb)))|refine kW cfg_ok ?_|refine kC ?_|refine bdA ?_|refine bd2 ?_|refine bdR ?_|refine bdL ?_)<;>(conv=>whnf))|(refine And.intro ?_ ?_;rotate_left;(conv=>whnf);rotate_right))
     · obtain rfl : k = a.length:=by omega
       conv=>whnf
       repeat' (first|exact trivial|((first|refine kL ?_|(refine ⟨fun hb=>?_,fun hb=>?_⟩<;>(try simp only [nrm] at hb)<;>(try (first|(exfalso;omega)|contradiction|exact kB hb)))|refine kW cfg_ok ?_|refine kC ?_|refine bdA ?_|refine bd2 ?_|refine bdR ?_|refine bdL ?_)<;>(conv=>whnf))|(refine And.intro ?_ ?_;rotate_left;(conv=>whnf);rotate_right))
       exact congrArg Value.bool (eqv_all (tt:=.u8) hl ht)
 · skip
   refine Api.of_fin cfg_ok Tryz.func142 rfl (nt:=24) rfl rfl ?_
   conv=>whnf
   repeat' (first|exact trivial|((first|refine kL ?_|(refine ⟨fun hb=>?_,fun hb=>?_⟩<;>(try simp only [nrm] at hb)<;>(try (first|(exfalso;omega)|contradiction|exact kB hb)))|refine kW cfg_ok ?_|refine kC ?_|refine bdA ?_|refine bd2 ?_|refine bdR ?_|refine bdL ?_)<;>(conv=>whnf))|(refine And.intro ?_ ?_;rotate_left;(conv=>whnf);rotate_right))
   all_goals first|omega|exact congrArg Value.bool (eqv_len hl)
theorem vboxeq_api (a b : Box) (ha : a.bag.length ≤ 9000000000000000000) : Api Tryz.prog 166 [.agg (cells .box a),.agg (cells .box b)] (bol (eqv a b)):=by
 have h1:=eqSlots_api a.bag b.bag ha
 by_cases he : a.bag = b.bag
 · rw [eqv_iff.2 he] at h1
   by_cases hc : a.cell = b.cell
   · rw [eqv_iff.2 (box_ext hc he)]
     refine Api.of_fin cfg_ok Tryz.func166 rfl (nt:=15) rfl rfl ?_
     conv=>whnf
     repeat' (first|exact trivial|((first|refine kL ?_|(refine ⟨fun hb=>?_,fun hb=>?_⟩<;>(try simp only [nrm] at hb)<;>(try (first|(exfalso;omega)|contradiction|exact kB hb)))|refine kA h1 ?_|refine kD h1 ?_|refine kW cfg_ok ?_|refine kC ?_|refine bdA ?_|refine bd2 ?_|refine bdR ?_|refine bdL ?_)<;>(conv=>whnf))|(refine And.intro ?_ ?_;rotate_left;(conv=>whnf);rotate_right))
     all_goals first|rfl|omega|trace_state
   · rw [eqv_false.2 (fun e=>hc (by rw [e]))]
     refine Api.of_fin cfg_ok Tryz.func166 rfl (nt:=15) rfl rfl ?_
     conv=>whnf
     repeat' (first|exact trivial|((first|refine kL ?_|(refine ⟨fun hb=>?_,fun hb=>?_⟩<;>(try simp only [nrm] at hb)<;>(try (first|(exfalso;omega)|contradiction|exact kB hb)))|refine kA h1 ?_|refine kD h1 ?_|refine kW cfg_ok ?_|refine kC ?_|refine bdA ?_|refine bd2 ?_|refine bdR ?_|refine bdL ?_)<;>(conv=>whnf))|(refine And.intro ?_ ?_;rotate_left;(conv=>whnf);rotate_right))
     all_goals first|rfl|omega|trace_state
 · rw [eqv_false.2 he] at h1
   rw [eqv_false.2 (fun e=>he (by rw [e]))]
   refine Api.of_fin cfg_ok Tryz.func166 rfl (nt:=15) rfl rfl ?_
   conv=>whnf
   repeat' (first|exact trivial|((first|refine kL ?_|(refine ⟨fun hb=>?_,fun hb=>?_⟩<;>(try simp only [nrm] at hb)<;>(try (first|(exfalso;omega)|contradiction|exact kB hb)))|refine kA h1 ?_|refine kD h1 ?_|refine kW cfg_ok ?_|refine kC ?_|refine bdA ?_|refine bd2 ?_|refine bdR ?_|refine bdL ?_)<;>(conv=>whnf))|(refine And.intro ?_ ?_;rotate_left;(conv=>whnf);rotate_right))
   all_goals first|rfl|omega|trace_state
def bagLe (x : Box) : Prop:=x.bag.length ≤ 9000000000000000000
theorem eqBoxes_api (a b : List (El .box)) (ha : a.length ≤ 9000000000000000000) (hw : ∀ x ∈ a,bagLe x) : Api Tryz.prog 165 [.vec .box a,.vec .box b,.lit (.func (.func 166) #[] #[])] (bol (eqv a b)):=by
 by_cases hl : a.length = b.length
 · skip
   refine Api.of_fin cfg_ok Tryz.func165 rfl (nt:=29) rfl rfl ?_
   conv=>whnf
   repeat' (first|exact trivial|((first|refine kL ?_|(refine ⟨fun hb=>?_,fun hb=>?_⟩<;>(try simp only [nrm] at hb)<;>(try (first|(exfalso;omega)|contradiction|exact kB hb)))|refine kW cfg_ok ?_|refine kC ?_|refine bdA ?_|refine bd2 ?_|refine bdR ?_|refine bdL ?_)<;>(conv=>whnf))|(refine And.intro ?_ ?_;rotate_left;(conv=>whnf);rotate_right))
   all_goals try omega
   refine Runs.loopS cfg_ok (σ:=Nat) [1,2,15,16,17] (fun k=>[.vec .box b,.lit (.func (.func 166) #[] #[]),.vec .box a,i64 a.length,i64 k]) (fun _=>[]) (fun k=>k ≤ a.length ∧ ∀ i < k,elt .box a i = elt .box b i) (fun k=>a.length - k) 0 ⟨by omega,by omega⟩ ?_ ?_
   · conv=>whnf
     repeat' (first|exact trivial|((first|refine kL ?_|(refine ⟨fun hb=>?_,fun hb=>?_⟩<;>(try simp only [nrm] at hb)<;>(try (first|(exfalso;omega)|contradiction|exact kB hb)))|refine kW cfg_ok ?_|refine kC ?_|refine bdA ?_|refine bd2 ?_|refine bdR ?_|refine bdL ?_)<;>(conv=>whnf))|(refine And.intro ?_ ?_;rotate_left;(conv=>whnf);rotate_right))
   · rintro k ⟨hk,ht⟩
     by_cases hlt : k < a.length
     · have hcl:=vboxeq_api (elt .box a k) (elt .box b k) (hw _ (elt_mem (t:=.box) hlt))
       by_cases he : elt .box a k = elt .box b k
       · rw [eqv_iff.2 he] at hcl
         conv=>whnf
         repeat' (first|exact trivial|((first|refine kL ?_|(refine ⟨fun hb=>?_,fun hb=>?_⟩<;>(try simp only [nrm] at hb)<;>(try (first|(exfalso;omega)|contradiction|exact kB hb)))|refine kA hcl ?_|refine kD hcl ?_|refine kW cfg_ok ?_|refine kC ?_|refine bdA ?_|refine bd2 ?_|refine bdR ?_|refine bdL ?_)<;>(conv=>whnf))|(refine And.intro ?_ ?_;rotate_left;(conv=>whnf);rotate_right))
         refine .to (k + 1) ⟨by omega,fun i hi=>?_⟩ (by omega) ?_
         · by_cases hik : i = k
           · rw [hik];exact he
           · exact ht i (by omega)
         conv=>whnf
         repeat' (first|exact trivial|((first|refine kL ?_|(refine ⟨fun hb=>?_,fun hb=>?_⟩<;>(try simp only [nrm] at hb)<;>(try (first|(exfalso;omega)|contradiction|exact kB hb)))|refine kW cfg_ok ?_|refine kC ?_|refine bdA ?_|refine bd2 ?_|refine bdR ?_|refine bdL ?_)<;>(conv=>whnf))|(refine And.intro ?_ ?_;rotate_left;(conv=>whnf);rotate_right))
       · rw [eqv_false.2 he] at hcl
         conv=>whnf
         repeat' (first|exact trivial|((first|refine kL ?_|(refine ⟨fun hb=>?_,fun hb=>?_⟩<;>(try simp only [nrm] at hb)<;>(try (first|(exfalso;omega)|contradiction|exact kB hb)))|refine kA hcl ?_|refine kD hcl ?_|refine kW cfg_ok ?_|refine kC ?_|refine bdA ?_|refine bd2 ?_|refine bdR ?_|refine bdL ?_)<;>(conv=>whnf))|(refine And.intro ?_ ?_;rotate_left;(conv=>whnf);rotate_right))
         exact congrArg Value.bool (eqv_take (tt:=.box) (k:=k) he)
     · obtain rfl : k = a.length:=by omega
       conv=>whnf
       repeat' (first|exact trivial|((first|refine kL ?_|(refine ⟨fun hb=>?_,fun hb=>?_⟩<;>(try simp only [nrm] at hb)<;>(try (first|(exfalso;omega)|contradiction|exact kB hb)))|refine kW cfg_ok ?_|refine kC ?_|refine bdA ?_|refine bd2 ?_|refine bdR ?_|refine bdL ?_)<;>(conv=>whnf))|(refine And.intro ?_ ?_;rotate_left;(conv=>whnf);rotate_right))
       exact congrArg Value.bool (eqv_all (tt:=.box) hl ht)
 · skip
   refine Api.of_fin cfg_ok Tryz.func165 rfl (nt:=29) rfl rfl ?_
   conv=>whnf
   repeat' (first|exact trivial|((first|refine kL ?_|(refine ⟨fun hb=>?_,fun hb=>?_⟩<;>(try simp only [nrm] at hb)<;>(try (first|(exfalso;omega)|contradiction|exact kB hb)))|refine kW cfg_ok ?_|refine kC ?_|refine bdA ?_|refine bd2 ?_|refine bdR ?_|refine bdL ?_)<;>(conv=>whnf))|(refine And.intro ?_ ?_;rotate_left;(conv=>whnf);rotate_right))
   all_goals first|omega|exact congrArg Value.bool (eqv_len hl)
theorem OkC.bags {c : Chunk} (hc : OkC c) : ∀ x ∈ c.boxes,bagLe x:=fun x hx=>by
 have:=(hc.boxes x hx).2
 unfold big at this
 unfold bagLe;omega
theorem vsamec_self (a : Chunk) (hc : OkC a) : Api Tryz.prog 116 [.agg (cells .chunk a),.agg (cells .chunk a)] (bol true):=by
 have h1:=eqCells_api a.cells a.cells hc.nc
 have h2:=eqHeaps_api a.heaps a.heaps hc.nh
 have h3:=eqBoxes_api a.boxes a.boxes hc.nb hc.bags
 rw [eqv_self] at h1 h2 h3
 refine Api.of_fin cfg_ok Tryz.func116 rfl (nt:=36) rfl rfl ?_
 conv=>whnf
 repeat' (first|exact trivial|((first|refine kL ?_|(refine ⟨fun hb=>?_,fun hb=>?_⟩<;>(try simp only [nrm] at hb)<;>(try (first|(exfalso;omega)|contradiction|exact kB hb)))|refine kA h1 ?_|refine kD h1 ?_|refine kA h2 ?_|refine kD h2 ?_|refine kA h3 ?_|refine kD h3 ?_|refine kW cfg_ok ?_|refine kC ?_|refine bdA ?_|refine bd2 ?_|refine bdR ?_|refine bdL ?_)<;>(conv=>whnf))|(refine And.intro ?_ ?_;rotate_left;(conv=>whnf);rotate_right))
 all_goals first|rfl|omega|trace_state
theorem vsamec_ne (a b : Chunk) (hc : OkC a) (hne : ¬ a = b) : Api Tryz.prog 116 [.agg (cells .chunk a),.agg (cells .chunk b)] (bol false):=by
 have h1:=eqCells_api a.cells b.cells hc.nc
 have h2:=eqHeaps_api a.heaps b.heaps hc.nh
 have h3:=eqBoxes_api a.boxes b.boxes hc.nb hc.bags
 cases e1 : eqv a.cells b.cells
 all_goals
   cases e2 : eqv a.heaps b.heaps
   all_goals
     cases e3 : eqv a.boxes b.boxes
     all_goals
       rw [e1] at h1
       rw [e2] at h2
       rw [e3] at h3
       refine Api.of_fin cfg_ok Tryz.func116 rfl (nt:=36) rfl rfl ?_
       conv=>whnf
       repeat' (first|exact trivial|((first|refine kL ?_|(refine ⟨fun hb=>?_,fun hb=>?_⟩<;>(try simp only [nrm] at hb)<;>(try (first|(exfalso;omega)|contradiction|exact kB hb)))|refine kA h1 ?_|refine kD h1 ?_|refine kA h2 ?_|refine kD h2 ?_|refine kA h3 ?_|refine kD h3 ?_|refine kW cfg_ok ?_|refine kC ?_|refine bdA ?_|refine bd2 ?_|refine bdR ?_|refine bdL ?_)<;>(conv=>whnf))|(refine And.intro ?_ ?_;rotate_left;(conv=>whnf);rotate_right))
 all_goals first|rfl|(exact absurd (chunk_ext (by assumption) (by assumption) (eqv_iff.1 e1) (eqv_iff.1 e2) (eqv_iff.1 e3)) hne)|omega|trace_state
theorem vsamec_api (a b : Chunk) (hc : OkC a) : Api Tryz.prog 116 [.agg (cells .chunk a),.agg (cells .chunk b)] (bol (eqv a b)):=by
 by_cases h : a = b
 · subst h;rw [eqv_self];exact vsamec_self a hc
 · rw [eqv_false.2 h];exact vsamec_ne a b hc h
theorem eqChunks_api (a b : List (El .chunk)) (ha : a.length ≤ 9000000000000000000) (hw : ∀ x ∈ a,OkC x) : Api Tryz.prog 115 [.vec .chunk a,.vec .chunk b,.lit (.func (.func 116) #[] #[])] (bol (eqv a b)):=by
 by_cases hl : a.length = b.length
 · skip
   refine Api.of_fin cfg_ok Tryz.func115 rfl (nt:=29) rfl rfl ?_
   conv=>whnf
   repeat' (first|exact trivial|((first|refine kL ?_|(refine ⟨fun hb=>?_,fun hb=>?_⟩<;>(try simp only [nrm] at hb)<;>(try (first|(exfalso;omega)|contradiction|exact kB hb)))|refine kW cfg_ok ?_|refine kC ?_|refine bdA ?_|refine bd2 ?_|refine bdR ?_|refine bdL ?_)<;>(conv=>whnf))|(refine And.intro ?_ ?_;rotate_left;(conv=>whnf);rotate_right))
   all_goals try omega
   refine Runs.loopS cfg_ok (σ:=Nat) [1,2,15,16,17] (fun k=>[.vec .chunk b,.lit (.func (.func 116) #[] #[]),.vec .chunk a,i64 a.length,i64 k]) (fun _=>[]) (fun k=>k ≤ a.length ∧ ∀ i < k,elt .chunk a i = elt .chunk b i) (fun k=>a.length - k) 0 ⟨by omega,by omega⟩ ?_ ?_
   · conv=>whnf
     repeat' (first|exact trivial|((first|refine kL ?_|(refine ⟨fun hb=>?_,fun hb=>?_⟩<;>(try simp only [nrm] at hb)<;>(try (first|(exfalso;omega)|contradiction|exact kB hb)))|refine kW cfg_ok ?_|refine kC ?_|refine bdA ?_|refine bd2 ?_|refine bdR ?_|refine bdL ?_)<;>(conv=>whnf))|(refine And.intro ?_ ?_;rotate_left;(conv=>whnf);rotate_right))
   · rintro k ⟨hk,ht⟩
     by_cases hlt : k < a.length
     · have hcl:=vsamec_api (elt .chunk a k) (elt .chunk b k) (hw _ (elt_mem (t:=.chunk) hlt))
       by_cases he : elt .chunk a k = elt .chunk b k
       · rw [eqv_iff.2 he] at hcl
         conv=>whnf
         repeat' (first|exact trivial|((first|refine kL ?_|(refine ⟨fun hb=>?_,fun hb=>?_⟩<;>(try simp only [nrm] at hb)<;>(try (first|(exfalso;omega)|contradiction|exact kB hb)))|refine kA hcl ?_|refine kD hcl ?_|refine kW cfg_ok ?_|refine kC ?_|refine bdA ?_|refine bd2 ?_|refine bdR ?_|refine bdL ?_)<;>(conv=>whnf))|(refine And.intro ?_ ?_;rotate_left;(conv=>whnf);rotate_right))
         refine .to (k + 1) ⟨by omega,fun i hi=>?_⟩ (by omega) ?_
         · by_cases hik : i = k
           · rw [hik];exact he
           · exact ht i (by omega)
         conv=>whnf
         repeat' (first|exact trivial|((first|refine kL ?_|(refine ⟨fun hb=>?_,fun hb=>?_⟩<;>(try simp only [nrm] at hb)<;>(try (first|(exfalso;omega)|contradiction|exact kB hb)))|refine kW cfg_ok ?_|refine kC ?_|refine bdA ?_|refine bd2 ?_|refine bdR ?_|refine bdL ?_)<;>(conv=>whnf))|(refine And.intro ?_ ?_;rotate_left;(conv=>whnf);rotate_right))
       · rw [eqv_false.2 he] at hcl
         conv=>whnf
         repeat' (first|exact trivial|((first|refine kL ?_|(refine ⟨fun hb=>?_,fun hb=>?_⟩<;>(try simp only [nrm] at hb)<;>(try (first|(exfalso;omega)|contradiction|exact kB hb)))|refine kA hcl ?_|refine kD hcl ?_|refine kW cfg_ok ?_|refine kC ?_|refine bdA ?_|refine bd2 ?_|refine bdR ?_|refine bdL ?_)<;>(conv=>whnf))|(refine And.intro ?_ ?_;rotate_left;(conv=>whnf);rotate_right))
         exact congrArg Value.bool (eqv_take (tt:=.chunk) (k:=k) he)
     · obtain rfl : k = a.length:=by omega
       conv=>whnf
       repeat' (first|exact trivial|((first|refine kL ?_|(refine ⟨fun hb=>?_,fun hb=>?_⟩<;>(try simp only [nrm] at hb)<;>(try (first|(exfalso;omega)|contradiction|exact kB hb)))|refine kW cfg_ok ?_|refine kC ?_|refine bdA ?_|refine bd2 ?_|refine bdR ?_|refine bdL ?_)<;>(conv=>whnf))|(refine And.intro ?_ ?_;rotate_left;(conv=>whnf);rotate_right))
       exact congrArg Value.bool (eqv_all (tt:=.chunk) hl ht)
 · skip
   refine Api.of_fin cfg_ok Tryz.func115 rfl (nt:=29) rfl rfl ?_
   conv=>whnf
   repeat' (first|exact trivial|((first|refine kL ?_|(refine ⟨fun hb=>?_,fun hb=>?_⟩<;>(try simp only [nrm] at hb)<;>(try (first|(exfalso;omega)|contradiction|exact kB hb)))|refine kW cfg_ok ?_|refine kC ?_|refine bdA ?_|refine bd2 ?_|refine bdR ?_|refine bdL ?_)<;>(conv=>whnf))|(refine And.intro ?_ ?_;rotate_left;(conv=>whnf);rotate_right))
   all_goals first|omega|exact congrArg Value.bool (eqv_len hl)
theorem viw_ext {a b : Viw} (h1 : a.tick = b.tick) (h2 : a.me = b.me) (h3 : a.chunks = b.chunks) (h4 : a.others = b.others) : a = b:=by cases a;cases b;simp_all
theorem vsame_self (a : Viw) (hv : OkV a) : Api Tryz.prog 44 [viewV a,viewV a] (bol true):=by
 have hn1:=hv.me.nb
 have hn2:=hv.me.no
 have hn3:=hv.nc
 have hn4:=hv.no
 have h1:=eqSlots_api a.me.bag a.me.bag (by omega)
 have h2:=eqSlots_api a.me.offer a.me.offer (by omega)
 have h3:=eqChunks_api a.chunks a.chunks (by omega) hv.chunks
 have h4:=eqSeens_api a.others a.others (by omega)
 rw [eqv_self] at h1 h2 h3 h4
 refine Api.of_fin cfg_ok Tryz.func44 rfl (nt:=77) rfl rfl ?_
 conv=>whnf
 repeat' (first|exact trivial|((first|refine kL ?_|(refine ⟨fun hb=>?_,fun hb=>?_⟩<;>(try simp only [nrm] at hb)<;>(try (first|(exfalso;omega)|contradiction|exact kB hb)))|refine kA h1 ?_|refine kD h1 ?_|refine kA h2 ?_|refine kD h2 ?_|refine kA h3 ?_|refine kD h3 ?_|refine kA h4 ?_|refine kD h4 ?_|refine kW cfg_ok ?_|refine kC ?_|refine bdA ?_|refine bd2 ?_|refine bdR ?_|refine bdL ?_)<;>(conv=>whnf))|(refine And.intro ?_ ?_;rotate_left;(conv=>whnf);rotate_right))
 all_goals first|rfl|omega|trace_state
theorem vsame_ne (a b : Viw) (hv : OkV a) (hne : ¬ a = b) : Api Tryz.prog 44 [viewV a,viewV b] (bol false):=by
 have hn1:=hv.me.nb
 have hn2:=hv.me.no
 have hn3:=hv.nc
 have hn4:=hv.no
 have h1:=eqSlots_api a.me.bag b.me.bag (by omega)
 have h2:=eqSlots_api a.me.offer b.me.offer (by omega)
 have h3:=eqChunks_api a.chunks b.chunks (by omega) hv.chunks
 have h4:=eqSeens_api a.others b.others (by omega)
 cases e1 : eqv a.me.bag b.me.bag
 all_goals
   cases e2 : eqv a.me.offer b.me.offer
   all_goals
     cases e3 : eqv a.chunks b.chunks
     all_goals
       cases e4 : eqv a.others b.others
       all_goals
         rw [e1] at h1
         rw [e2] at h2
         rw [e3] at h3
         rw [e4] at h4
         refine Api.of_fin cfg_ok Tryz.func44 rfl (nt:=77) rfl rfl ?_
         conv=>whnf
         repeat' (first|exact trivial|((first|refine kL ?_|(refine ⟨fun hb=>?_,fun hb=>?_⟩<;>(try simp only [nrm] at hb)<;>(try (first|(exfalso;omega)|contradiction|exact kB hb)))|refine kA h1 ?_|refine kD h1 ?_|refine kA h2 ?_|refine kD h2 ?_|refine kA h3 ?_|refine kD h3 ?_|refine kA h4 ?_|refine kD h4 ?_|refine kW cfg_ok ?_|refine kC ?_|refine bdA ?_|refine bd2 ?_|refine bdR ?_|refine bdL ?_)<;>(conv=>whnf))|(refine And.intro ?_ ?_;rotate_left;(conv=>whnf);rotate_right))
 all_goals first|rfl|(exact absurd (viw_ext (by assumption) (player_ext (by assumption) (by assumption) (by assumption) (eqv_iff.1 e1) (by assumption) (eqv_iff.1 e2) (by assumption)) (eqv_iff.1 e3) (eqv_iff.1 e4)) hne)|omega|trace_state
theorem vsame_api (a b : Viw) (hv : OkV a) : Api Tryz.prog 44 [viewV a,viewV b] (bol (eqv a b)):=by
 by_cases h : a = b
 · subst h;rw [eqv_self];exact vsame_self a hv
 · rw [eqv_false.2 h];exact vsame_ne a b hv h
open Go Go.RowKit Eng
def headG (v : Viw) : Bool:=decide (60 < (v.chunks.length : Int) ∨ 100 < (v.others.length : Int) ∨ 300 < (v.me.bag.length : Int) + v.me.offer.length)
def greatV (v : Viw) : Bool:=headG v || v.chunks.any greatB
theorem greatV_api (v : Viw) (hv : OkV v) : Api Tryz.prog 40 [viewV v] (bol (greatV v)):=by
 have hnc:=hv.nc
 have hno:=hv.no
 have hm1:=hv.me.nb
 have hm2:=hv.me.no
 by_cases hbig : 60 < (v.chunks.length : Int) ∨ 100 < (v.others.length : Int) ∨ 300 < (v.me.bag.length : Int) + v.me.offer.length
 · have hs : greatV v = true:=by
     unfold greatV headG;rw [decide_eq_true hbig];rfl
   rw [hs]
   refine Api.of_fin cfg_ok Tryz.func40 rfl (nt:=38) rfl rfl ?_
   conv=>whnf
   repeat' (first|exact trivial|((first|refine kL ?_|(refine ⟨fun hb=>?_,fun hb=>?_⟩<;>(try simp only [nrm] at hb)<;>(try (first|(exfalso;omega)|contradiction|exact kB hb)))|refine kW cfg_ok ?_|refine kC ?_|refine bdA ?_|refine bd2 ?_|refine bdR ?_|refine bdL ?_)<;>(conv=>whnf))|(refine And.intro ?_ ?_;rotate_left;(conv=>whnf);rotate_right))
   all_goals first|rfl|omega|trace_state
 · have hs : greatV v = v.chunks.any greatB:=by
     unfold greatV headG;rw [decide_eq_false hbig];rfl
   rw [hs]
   refine Api.of_fin cfg_ok Tryz.func40 rfl (nt:=38) rfl rfl ?_
   conv=>whnf
   repeat' (first|exact trivial|((first|refine kL ?_|(refine ⟨fun hb=>?_,fun hb=>?_⟩<;>(try simp only [nrm] at hb)<;>(try (first|(exfalso;omega)|contradiction|exact kB hb)))|refine kW cfg_ok ?_|refine kC ?_|refine bdA ?_|refine bd2 ?_|refine bdR ?_|refine bdL ?_)<;>(conv=>whnf))|(refine And.intro ?_ ?_;rotate_left;(conv=>whnf);rotate_right))
   all_goals try omega
   refine Runs.loopS cfg_ok (σ:=Nat) [1,28,29] (fun k=>[.ptr 2 0,i64 v.chunks.length,i64 k]) (fun _=>[(2,.box (viewC v))]) (fun k=>k ≤ v.chunks.length ∧ (v.chunks.drop k).any greatB = v.chunks.any greatB) (fun k=>v.chunks.length - k) 0 ⟨by omega,rfl⟩ ?_ ?_
   · conv=>whnf
     repeat' (first|exact trivial|((first|refine kL ?_|(refine ⟨fun hb=>?_,fun hb=>?_⟩<;>(try simp only [nrm] at hb)<;>(try (first|(exfalso;omega)|contradiction|exact kB hb)))|refine kW cfg_ok ?_|refine kC ?_|refine bdA ?_|refine bd2 ?_|refine bdR ?_|refine bdL ?_)<;>(conv=>whnf))|(refine And.intro ?_ ?_;rotate_left;(conv=>whnf);rotate_right))
     all_goals first|rfl|omega|trace_state
   · rintro k ⟨hk,hg⟩
     by_cases hlt : k < v.chunks.length
     · rw [any_drop (tt:=.chunk) hlt] at hg
       have hgr:=great_api (elt .chunk v.chunks k) (hv.chunks _ (elt_mem (t:=.chunk) hlt))
       cases hq : greatB (elt .chunk v.chunks k) with
       | true =>
         rw [hq] at hgr hg
         conv=>whnf
         repeat' (first|exact trivial|((first|refine kL ?_|(refine ⟨fun hb=>?_,fun hb=>?_⟩<;>(try simp only [nrm] at hb)<;>(try (first|(exfalso;omega)|contradiction|exact kB hb)))|refine kA hgr ?_|refine kD hgr ?_|refine kW cfg_ok ?_|refine kC ?_|refine bdA ?_|refine bd2 ?_|refine bdR ?_|refine bdL ?_)<;>(conv=>whnf))|(refine And.intro ?_ ?_;rotate_left;(conv=>whnf);rotate_right))
         all_goals first|omega|(refine congrArg Value.bool ?_;rw [← hg];rfl)|trace_state
       | false =>
         rw [hq] at hgr hg
         conv=>whnf
         repeat' (first|exact trivial|((first|refine kL ?_|(refine ⟨fun hb=>?_,fun hb=>?_⟩<;>(try simp only [nrm] at hb)<;>(try (first|(exfalso;omega)|contradiction|exact kB hb)))|refine kA hgr ?_|refine kD hgr ?_|refine kW cfg_ok ?_|refine kC ?_|refine bdA ?_|refine bd2 ?_|refine bdR ?_|refine bdL ?_)<;>(conv=>whnf))|(refine And.intro ?_ ?_;rotate_left;(conv=>whnf);rotate_right))
         all_goals try omega
         all_goals
           refine .to (k + 1) ⟨by omega,hg⟩ (by omega) ?_
           conv=>whnf
           repeat' (first|exact trivial|((first|refine kL ?_|(refine ⟨fun hb=>?_,fun hb=>?_⟩<;>(try simp only [nrm] at hb)<;>(try (first|(exfalso;omega)|contradiction|exact kB hb)))|refine kW cfg_ok ?_|refine kC ?_|refine bdA ?_|refine bd2 ?_|refine bdR ?_|refine bdL ?_)<;>(conv=>whnf))|(refine And.intro ?_ ?_;rotate_left;(conv=>whnf);rotate_right))
           all_goals first|rfl|omega|trace_state
     · obtain rfl : k = v.chunks.length:=by omega
       rw [List.drop_length] at hg
       rw [← hg]
       conv=>whnf
       repeat' (first|exact trivial|((first|refine kL ?_|(refine ⟨fun hb=>?_,fun hb=>?_⟩<;>(try simp only [nrm] at hb)<;>(try (first|(exfalso;omega)|contradiction|exact kB hb)))|refine kW cfg_ok ?_|refine kC ?_|refine bdA ?_|refine bd2 ?_|refine bdR ?_|refine bdL ?_)<;>(conv=>whnf))|(refine And.intro ?_ ?_;rotate_left;(conv=>whnf);rotate_right))
       all_goals first|rfl|omega|trace_state
theorem same19_api (a b : Viw) (hv : OkV a) : Api Tryz.prog 39 [viewV a,viewV b] (bol (eqv a b)):=by
 have hnc:=hv.nc
 have hno:=hv.no
 have hp:=sameP_api a.me b.me hv.me
 by_cases hh : a.tick = b.tick ∧ a.me = b.me ∧ a.chunks.length = b.chunks.length ∧ a.others.length = b.others.length
 · obtain ⟨h1,h2,h3,h4⟩:=hh
   rw [eqv_iff.2 h2] at hp
   have hext:=fun e1 e2=>@viw_ext a b h1 h2 e1 e2
   refine Api.of_fin cfg_ok Tryz.func39 rfl (nt:=73) rfl rfl ?_
   conv=>whnf
   repeat' (first|exact trivial|((first|refine kL ?_|(refine ⟨fun hb=>?_,fun hb=>?_⟩<;>(try simp only [nrm] at hb)<;>(try (first|(exfalso;omega)|contradiction|exact kB hb)))|refine kA hp ?_|refine kD hp ?_|refine kW cfg_ok ?_|refine kC ?_|refine bdA ?_|refine bd2 ?_|refine bdR ?_|refine bdL ?_)<;>(conv=>whnf))|(refine And.intro ?_ ?_;rotate_left;(conv=>whnf);rotate_right))
   all_goals try omega
   refine Runs.loopS cfg_ok (σ:=Nat) [2,3,40,41] (fun k=>[.ptr 4 0,.ptr 6 0,i64 a.chunks.length,i64 k]) (fun _=>[(4,.box (viewC a)),(6,.box (viewC b))]) (fun k=>k ≤ a.chunks.length ∧ ∀ i < k,elt .chunk a.chunks i = elt .chunk b.chunks i) (fun k=>a.chunks.length - k) 0 ⟨by omega,by omega⟩ ?_ ?_
   · conv=>whnf
     repeat' (first|exact trivial|((first|refine kL ?_|(refine ⟨fun hb=>?_,fun hb=>?_⟩<;>(try simp only [nrm] at hb)<;>(try (first|(exfalso;omega)|contradiction|exact kB hb)))|refine kW cfg_ok ?_|refine kC ?_|refine bdA ?_|refine bd2 ?_|refine bdR ?_|refine bdL ?_)<;>(conv=>whnf))|(refine And.intro ?_ ?_;rotate_left;(conv=>whnf);rotate_right))
     all_goals first|rfl|omega|trace_state
   · rintro k ⟨hk,ht⟩
     by_cases hlt : k < a.chunks.length
     · have hok:=hv.chunks _ (elt_mem (t:=.chunk) hlt)
       by_cases he : elt .chunk a.chunks k = elt .chunk b.chunks k
       · have hsm:=same_self (elt .chunk a.chunks k) hok
         rw [show chunkV (elt .chunk a.chunks k) = chunkV (elt .chunk a.chunks k) from rfl] at hsm
         have hsm2 : Api Tryz.prog 21 [chunkV (elt .chunk a.chunks k),chunkV (elt .chunk b.chunks k)] (bol true):=by rw [← he];exact hsm
         conv=>whnf
         repeat' (first|exact trivial|((first|refine kL ?_|(refine ⟨fun hb=>?_,fun hb=>?_⟩<;>(try simp only [nrm] at hb)<;>(try (first|(exfalso;omega)|contradiction|exact kB hb)))|refine kA hsm2 ?_|refine kD hsm2 ?_|refine kW cfg_ok ?_|refine kC ?_|refine bdA ?_|refine bd2 ?_|refine bdR ?_|refine bdL ?_)<;>(conv=>whnf))|(refine And.intro ?_ ?_;rotate_left;(conv=>whnf);rotate_right))
         all_goals try omega
         all_goals
           refine .to (k + 1) ⟨by omega,fun i hi=>?_⟩ (by omega) ?_
           · by_cases hik : i = k
             · rw [hik];exact he
             · exact ht i (by omega)
           conv=>whnf
           repeat' (first|exact trivial|((first|refine kL ?_|(refine ⟨fun hb=>?_,fun hb=>?_⟩<;>(try simp only [nrm] at hb)<;>(try (first|(exfalso;omega)|contradiction|exact kB hb)))|refine kW cfg_ok ?_|refine kC ?_|refine bdA ?_|refine bd2 ?_|refine bdR ?_|refine bdL ?_)<;>(conv=>whnf))|(refine And.intro ?_ ?_;rotate_left;(conv=>whnf);rotate_right))
           all_goals first|rfl|omega|trace_state
       · have hsm:=same_ne (elt .chunk a.chunks k) (elt .chunk b.chunks k) hok he
         have hne : eqv a b = false:=eqv_false.2 fun e=>he (by rw [e])
         rw [hne]
         conv=>whnf
         repeat' (first|exact trivial|((first|refine kL ?_|(refine ⟨fun hb=>?_,fun hb=>?_⟩<;>(try simp only [nrm] at hb)<;>(try (first|(exfalso;omega)|contradiction|exact kB hb)))|refine kA hsm ?_|refine kD hsm ?_|refine kW cfg_ok ?_|refine kC ?_|refine bdA ?_|refine bd2 ?_|refine bdR ?_|refine bdL ?_)<;>(conv=>whnf))|(refine And.intro ?_ ?_;rotate_left;(conv=>whnf);rotate_right))
         all_goals first|rfl|omega|trace_state
     · obtain rfl : k = a.chunks.length:=by omega
       have hce : a.chunks = b.chunks:=elt_ext (tt:=.chunk) h3 ht
       conv=>whnf
       repeat' (first|exact trivial|((first|refine kL ?_|(refine ⟨fun hb=>?_,fun hb=>?_⟩<;>(try simp only [nrm] at hb)<;>(try (first|(exfalso;omega)|contradiction|exact kB hb)))|refine kW cfg_ok ?_|refine kC ?_|refine bdA ?_|refine bd2 ?_|refine bdR ?_|refine bdL ?_)<;>(conv=>whnf))|(refine And.intro ?_ ?_;rotate_left;(conv=>whnf);rotate_right))
       all_goals try omega
       refine Runs.loopS cfg_ok (σ:=Nat) [2,3,59,60] (fun k=>[.ptr 4 0,.ptr 6 0,i64 a.others.length,i64 k]) (fun _=>[(4,.box (viewC a)),(6,.box (viewC b))]) (fun k=>k ≤ a.others.length ∧ ∀ i < k,elt .seen a.others i = elt .seen b.others i) (fun k=>a.others.length - k) 0 ⟨by omega,by omega⟩ ?_ ?_
       · conv=>whnf
         repeat' (first|exact trivial|((first|refine kL ?_|(refine ⟨fun hb=>?_,fun hb=>?_⟩<;>(try simp only [nrm] at hb)<;>(try (first|(exfalso;omega)|contradiction|exact kB hb)))|refine kW cfg_ok ?_|refine kC ?_|refine bdA ?_|refine bd2 ?_|refine bdR ?_|refine bdL ?_)<;>(conv=>whnf))|(refine And.intro ?_ ?_;rotate_left;(conv=>whnf);rotate_right))
         all_goals first|rfl|omega|trace_state
       · rintro k ⟨hk,ht⟩
         by_cases hlt : k < a.others.length
         · by_cases he : elt .seen a.others k = elt .seen b.others k
           · have e1:=congrArg Seen.id he
             have e2:=congrArg Seen.x he
             have e3:=congrArg Seen.y he
             conv=>whnf
             repeat' (first|exact trivial|((first|refine kL ?_|(refine ⟨fun hb=>?_,fun hb=>?_⟩<;>(try simp only [nrm] at hb)<;>(try (first|(exfalso;omega)|contradiction|exact kB hb)))|refine kW cfg_ok ?_|refine kC ?_|refine bdA ?_|refine bd2 ?_|refine bdR ?_|refine bdL ?_)<;>(conv=>whnf))|(refine And.intro ?_ ?_;rotate_left;(conv=>whnf);rotate_right))
             all_goals try omega
             all_goals
               refine .to (k + 1) ⟨by omega,fun i hi=>?_⟩ (by omega) ?_
               · by_cases hik : i = k
                 · rw [hik];exact he
                 · exact ht i (by omega)
               conv=>whnf
               repeat' (first|exact trivial|((first|refine kL ?_|(refine ⟨fun hb=>?_,fun hb=>?_⟩<;>(try simp only [nrm] at hb)<;>(try (first|(exfalso;omega)|contradiction|exact kB hb)))|refine kW cfg_ok ?_|refine kC ?_|refine bdA ?_|refine bd2 ?_|refine bdR ?_|refine bdL ?_)<;>(conv=>whnf))|(refine And.intro ?_ ?_;rotate_left;(conv=>whnf);rotate_right))
               all_goals first|rfl|omega|trace_state
           · have hne : eqv a b = false:=eqv_false.2 fun e=>he (by rw [e])
             have hne2 : ¬ ((elt .seen a.others k).id = (elt .seen b.others k).id ∧ (elt .seen a.others k).x = (elt .seen b.others k).x ∧ (elt .seen a.others k).y = (elt .seen b.others k).y):=fun h=>he (seen_ext h.1 h.2.1 h.2.2)
             rw [hne]
             conv=>whnf
             repeat' (first|exact trivial|((first|refine kL ?_|(refine ⟨fun hb=>?_,fun hb=>?_⟩<;>(try simp only [nrm] at hb)<;>(try (first|(exfalso;omega)|contradiction|exact kB hb)))|refine kW cfg_ok ?_|refine kC ?_|refine bdA ?_|refine bd2 ?_|refine bdR ?_|refine bdL ?_)<;>(conv=>whnf))|(refine And.intro ?_ ?_;rotate_left;(conv=>whnf);rotate_right))
             all_goals first|rfl|omega|trace_state
         · obtain rfl : k = a.others.length:=by omega
           have heq : eqv a b = true:=eqv_iff.2 (hext hce (elt_ext (tt:=.seen) h4 ht))
           rw [heq]
           conv=>whnf
           repeat' (first|exact trivial|((first|refine kL ?_|(refine ⟨fun hb=>?_,fun hb=>?_⟩<;>(try simp only [nrm] at hb)<;>(try (first|(exfalso;omega)|contradiction|exact kB hb)))|refine kW cfg_ok ?_|refine kC ?_|refine bdA ?_|refine bd2 ?_|refine bdR ?_|refine bdL ?_)<;>(conv=>whnf))|(refine And.intro ?_ ?_;rotate_left;(conv=>whnf);rotate_right))
           all_goals first|rfl|omega|trace_state
 · have hne : eqv a b = false:=eqv_false.2 fun e=>hh (by rw [e];exact ⟨rfl,rfl,rfl,rfl⟩)
   rw [hne]
   by_cases h2 : a.me = b.me
   · rw [eqv_iff.2 h2] at hp
     have hh2 : ¬ (a.tick = b.tick ∧ a.chunks.length = b.chunks.length ∧ a.others.length = b.others.length):=fun h=>hh ⟨h.1,h2,h.2⟩
     refine Api.of_fin cfg_ok Tryz.func39 rfl (nt:=73) rfl rfl ?_
     conv=>whnf
     repeat' (first|exact trivial|((first|refine kL ?_|(refine ⟨fun hb=>?_,fun hb=>?_⟩<;>(try simp only [nrm] at hb)<;>(try (first|(exfalso;omega)|contradiction|exact kB hb)))|refine kA hp ?_|refine kD hp ?_|refine kW cfg_ok ?_|refine kC ?_|refine bdA ?_|refine bd2 ?_|refine bdR ?_|refine bdL ?_)<;>(conv=>whnf))|(refine And.intro ?_ ?_;rotate_left;(conv=>whnf);rotate_right))
     all_goals first|rfl|omega|trace_state
   · rw [eqv_false.2 h2] at hp
     refine Api.of_fin cfg_ok Tryz.func39 rfl (nt:=73) rfl rfl ?_
     conv=>whnf
     repeat' (first|exact trivial|((first|refine kL ?_|(refine ⟨fun hb=>?_,fun hb=>?_⟩<;>(try simp only [nrm] at hb)<;>(try (first|(exfalso;omega)|contradiction|exact kB hb)))|refine kA hp ?_|refine kD hp ?_|refine kW cfg_ok ?_|refine kC ?_|refine bdA ?_|refine bd2 ?_|refine bdR ?_|refine bdL ?_)<;>(conv=>whnf))|(refine And.intro ?_ ?_;rotate_left;(conv=>whnf);rotate_right))
     all_goals first|rfl|omega|trace_state
end Go.Proofs.YtaecchphjploaaaGreat
