/- view.Right, view.Same; homesteadlaw19.Great, Same. -/
import Derived.Test.YtaecchphjploaaaGi
import Derived.Test.YtaecchphjploaaaGk
import Derived.Test.YtaecchphjploaaaGh
import Derived.Test.YtaecchphjploaaaGg
set_option linter.unusedSimpArgs false
set_option linter.unusedVariables false
set_option maxRecDepth 100000
set_option maxHeartbeats 16000000
namespace Go.Proofs.Ytaecchphjploaaa
open Go Go.RowKit Eng
def wv16 : Wld:=⟨16,0,0,[],[]⟩
structure OkV (v : Viw) : Prop where
 me : OkP v.me
 chunks : ∀ c ∈ v.chunks,OkC c
 nc : v.chunks.length * 88 ≤ 140737488351232
 no : v.others.length * 24 ≤ 140737488351232
def okCh (l : List Chunk) (i : Nat) : Bool:=rightB (elt .chunk l i) && (decide (i = 0) || decide (orderI (elt .chunk l (i - 1)) (elt .chunk l i) < 0))
def okOt (me : Int) (l : List Seen) (i : Nat) : Bool:=decide (0 ≤ (elt .seen l i).id ∧ (elt .seen l i).id ≤ 1073741824 ∧ (elt .seen l i).id ≠ me ∧ 0 ≤ min (elt .seen l i).x (elt .seen l i).y ∧ max (elt .seen l i).x (elt .seen l i).y < 128 ∧ (i = 0 ∨ (elt .seen l (i - 1)).id < (elt .seen l i).id))
def headV (v : Viw) : Bool:=decide ((setW wv16 v.me).2 = 0 ∧ 0 ≤ v.tick ∧ v.tick ≤ 1099511627776 ∧ v.chunks.length ≤ 49 ∧ v.others.length ≤ 32)
def rightV (v : Viw) : Bool:=headV v && (List.range v.chunks.length).all (okCh v.chunks) && (List.range v.others.length).all (okOt v.me.id v.others)
open Go Go.RowKit Eng
theorem rowV_mem {w : Wld} {p : Player} {r : Int} {y k : Nat} {c : Chunk} (h : c ∈ rowV w p r y k) : ∃ x : Nat,x < k ∧ seesB p r (x : Nat) (y : Nat) = true ∧ c = (chunkW w (x : Nat) (y : Nat)).1:=by
 unfold rowV at h
 obtain ⟨x,hx,rfl⟩:=List.mem_map.1 h
 obtain ⟨h1,h2⟩:=List.mem_filter.1 hx
 exact ⟨x,List.mem_range.1 h1,h2,rfl⟩
theorem rowsV_mem {w : Wld} {p : Player} {r : Int} {s y : Nat} {c : Chunk} (h : c ∈ rowsV w p r s y) : ∃ b : Nat,b < y ∧ ∃ x : Nat,x < s ∧ seesB p r (x : Nat) (b : Nat) = true ∧ c = (chunkW w (x : Nat) (b : Nat)).1:=by
 induction y with
 | zero=>simp [rowsV] at h
 | succ y ih =>
   rw [rowsV] at h
   rcases List.mem_append.1 h with h|h
   · obtain ⟨b,hb,hr⟩:=ih h;exact ⟨b,by omega,hr⟩
   · exact ⟨y,by omega,rowV_mem h⟩
theorem risesK_append {α : Type} {key : α → Int} {A B : List α} (ha : risesK key A) (hb : risesK key B) (h : ∀ a ∈ A,∀ b ∈ B,key a < key b) : risesK key (A ++ B):=by
 induction A with
 | nil=>exact hb
 | cons a r ih =>
   refine ⟨fun x hx=>?_,ih ha.2 fun a ha b hb=>h a (List.mem_cons_of_mem _ ha) b hb⟩
   rcases List.mem_append.1 hx with hx|hx
   · exact ha.1 x hx
   · exact h a (List.mem_cons_self ..) x hx
theorem risesK_filter {α : Type} {key : α → Int} {f : α → Bool} {l : List α} (h : risesK key l) : risesK key (l.filter f):=by
 induction l with
 | nil=>exact h
 | cons a r ih =>
   cases hf : f a with
   | true=>rw [List.filter_cons_of_pos hf];exact ⟨fun x hx=>h.1 x (List.mem_filter.1 hx).1,ih h.2⟩
   | false=>rw [List.filter_cons_of_neg (by rw [hf];simp)];exact ih h.2
theorem risesK_map {α β : Type} {key : α → Int} {kb : β → Int} {f : α → β} {l : List α} (hk : ∀ a,kb (f a) = key a) (h : risesK key l) : risesK kb (l.map f):=by
 induction l with
 | nil=>trivial
 | cons a r ih =>
   refine ⟨fun x hx=>?_,ih h.2⟩
   obtain ⟨b,hb,rfl⟩:=List.mem_map.1 hx
   rw [hk,hk];exact h.1 b hb
theorem seen_at {w : Wld} (hR : RW w) {x y : Nat} (hx : (x : Int) < w.size) (hy : (y : Int) < w.size) : rightB (chunkW w (x : Nat) (y : Nat)).1 = true ∧ (chunkW w (x : Nat) (y : Nat)).1.x = x ∧ (chunkW w (x : Nat) (y : Nat)).1.y = y ∧ (chunkW w (x : Nat) (y : Nat)).2 = true:=by
 obtain ⟨h1,h2,h3⟩:=chunkW_in hR (x:=(x : Nat)) (y:=(y : Nat)) ⟨by omega,hx⟩ ⟨by omega,hy⟩
 exact ⟨chunk_right hR ⟨by omega,hx⟩ ⟨by omega,hy⟩,h2,h3,by rw [h1]⟩
theorem rowV_rises {w : Wld} (hR : RW w) {p : Player} {r : Int} {y k : Nat} (hy : (y : Int) < w.size) (hk : (k : Int) ≤ w.size) : risesK keyC (rowV w p r y k):=by
 induction k with
 | zero=>trivial
 | succ k ih =>
   rw [rowV_succ]
   refine risesK_append (ih (by omega)) ?_ fun a ha b hb=>?_
   · split
     · exact ⟨fun x hx=>(by cases hx),trivial⟩
     · trivial
   · obtain ⟨x,hx,_,rfl⟩:=rowV_mem ha
     split at hb
     · obtain rfl:=List.mem_singleton.1 hb
       obtain ⟨_,h1,h2,_⟩:=seen_at hR (x:=x) (y:=y) (by omega) hy
       obtain ⟨_,h3,h4,_⟩:=seen_at hR (x:=k) (y:=y) (by omega) hy
       unfold keyC;omega
     · cases hb
theorem rowsV_rises {w : Wld} (hR : RW w) {p : Player} {r : Int} {s y : Nat} (hs : (s : Int) ≤ w.size) (hy : (y : Int) ≤ w.size) : risesK keyC (rowsV w p r s y):=by
 have hsz:=hR.size
 induction y with
 | zero=>trivial
 | succ y ih =>
   rw [rowsV]
   refine risesK_append (ih (by omega)) (rowV_rises hR (by omega) hs) fun a ha b hb=>?_
   obtain ⟨v,hv,x,hx,_,rfl⟩:=rowsV_mem ha
   obtain ⟨z,hz,_,rfl⟩:=rowV_mem hb
   obtain ⟨_,h1,h2,_⟩:=seen_at hR (x:=x) (y:=v) (by omega) (by omega)
   obtain ⟨_,h3,h4,_⟩:=seen_at hR (x:=z) (y:=y) (by omega) (by omega)
   unfold keyC;omega
theorem rwv16 : RW wv16:=rightW_iff.1 (by kernel_rfl)
theorem of_right {w : Wld} {id r : Int} (h : (ofW w id r).2 = 0) : rightV (ofW w id r).1 = true:=by
 obtain ⟨hr0,hr3,hR,hP,hof⟩:=ofW_ok h
 obtain ⟨hmem,hid⟩:=player_mem hP
 have hsz:=hR.size
 obtain ⟨hso,hwi⟩:=hR.players _ hmem
 have hwi2:=(within_iff hR).1 hwi
 rw [hof]
 have hset : setOk wv16 (playerW w id).1:=⟨rwv16,hso,(within_iff rwv16).2 (by have h16 : wv16.size = 16:=rfl;omega),.inr (by decide)⟩
 have hx:=cnt_side (a:=(playerW w id).1.x / 8) (r:=r) (S:=w.size.toNat) (by omega) (by omega) (by omega)
 have hy:=cnt_side (a:=(playerW w id).1.y / 8) (r:=r) (S:=w.size.toNat) (by omega) (by omega) (by omega)
 have hcn:=rowsV_cnt w (playerW w id).1 r w.size.toNat w.size.toNat
 have h49 : cntI ((playerW w id).1.x / 8) r w.size.toNat * cntI ((playerW w id).1.y / 8) r w.size.toNat ≤ 7 * 7:=Nat.mul_le_mul (by omega) (by omega)
 have hol:=othV_len w.players (playerW w id).1 r id w.players.length
 have hrc:=rowsV_rises hR (p:=(playerW w id).1) (r:=r) (s:=w.size.toNat) (y:=w.size.toNat) (by omega) (by omega)
 have hro : risesK (fun s : Seen=>s.id) (othV w.players (playerW w id).1 r id w.players.length):=by
   unfold othV
   rw [List.take_length]
   exact risesK_map (key:=pid) (fun a=>rfl) (risesK_filter hR.rp)
 have hme : (playerW w id).1.id = id:=hid
 have hch : ∀ c ∈ rowsV w (playerW w id).1 r w.size.toNat w.size.toNat,rightB c = true ∧ 0 ≤ c.x ∧ c.x < 16:=by
   intro c hc
   obtain ⟨v,hv,x,hx,_,rfl⟩:=rowsV_mem hc
   obtain ⟨h1,h2,_,_⟩:=seen_at hR (x:=x) (y:=v) (by omega) (by omega)
   exact ⟨h1,by omega,by omega⟩
 have hot : ∀ s ∈ othV w.players (playerW w id).1 r id w.players.length,0 ≤ s.id ∧ s.id ≤ 1073741824 ∧ s.id ≠ id ∧ 0 ≤ s.x ∧ s.x < 128 ∧ 0 ≤ s.y ∧ s.y < 128:=by
   intro s hs
   unfold othV at hs
   rw [List.take_length] at hs
   obtain ⟨q,hq,rfl⟩:=List.mem_map.1 hs
   obtain ⟨hq1,hq2⟩:=List.mem_filter.1 hq
   obtain ⟨b1,b2,b3,b4⟩:=within_bd hR hq1
   have hsq:=(hR.players _ hq1).1
   unfold othB at hq2
   simp only [Bool.and_eq_true,Bool.not_eq_true',decide_eq_false_iff_not] at hq2
   simp only [soundB,Bool.and_eq_true,decide_eq_true_eq] at hsq
   exact ⟨by show 0 ≤ q.id;omega,by show q.id ≤ _;omega,hq2.1,b1,b2,b3,b4⟩
 generalize rowsV w (playerW w id).1 r w.size.toNat w.size.toNat = C at *
 generalize othV w.players (playerW w id).1 r id w.players.length = O at *
 unfold rightV headV
 simp only [Bool.and_eq_true,decide_eq_true_eq,List.all_eq_true,List.mem_range]
 refine ⟨⟨⟨?_,by omega,by omega,by omega,by omega⟩,fun i hi=>?_⟩,fun i hi=>?_⟩
 · rw [set_eq hset]
 · have hm:=hch _ (elt_mem (t:=.chunk) hi)
   unfold okCh
   rw [hm.1,Bool.true_and,Bool.or_eq_true,decide_eq_true_eq,decide_eq_true_eq]
   by_cases h0 : i = 0
   · exact .inl h0
   · refine .inr ?_
     have hk:=risesK_lt hrc (i:=i - 1) (j:=i) (by omega) (elt_get .chunk C (i - 1) (by omega)) (elt_get .chunk C i hi)
     have hm2:=hch _ (elt_mem (t:=.chunk) (l:=C) (i:=i - 1) (by omega))
     generalize elt .chunk C i = b at *
     generalize elt .chunk C (i - 1) = a at *
     have h1:=hm.2
     have h2:=hm2.2
     unfold orderI cmpOr cmpI
     unfold keyC at hk
     (repeat' split)<;>omega
 · have hm:=hot _ (elt_mem (t:=.seen) hi)
   unfold okOt
   rw [decide_eq_true_eq]
   refine ⟨hm.1,hm.2.1,by rw [hme];exact hm.2.2.1,by omega,by omega,?_⟩
   by_cases h0 : i = 0
   · exact .inl h0
   · exact .inr (risesK_lt hro (i:=i - 1) (j:=i) (by omega) (elt_get .seen O (i - 1) (by omega)) (elt_get .seen O i hi))
open Go Go.RowKit Eng
theorem seen_ext {a b : Seen} (h1 : a.id = b.id) (h2 : a.x = b.x) (h3 : a.y = b.y) : a = b:=by cases a;cases b;simp_all
def bagLe (x : Box) : Prop:=x.bag.length ≤ 9000000000000000000
theorem OkC.bags {c : Chunk} (hc : OkC c) : ∀ x ∈ c.boxes,bagLe x:=fun x hx=>by
 have:=(hc.boxes x hx).2
 unfold big at this
 unfold bagLe;omega
theorem viw_ext {a b : Viw} (h1 : a.tick = b.tick) (h2 : a.me = b.me) (h3 : a.chunks = b.chunks) (h4 : a.others = b.others) : a = b:=by cases a;cases b;simp_all
open Go Go.RowKit Eng
theorem same19_api (a b : Viw) (hv : OkV a) : Api Try.prog 21 [viewV a,viewV b] (bol (eqv a b)):=by
 have hnc:=hv.nc
 have hno:=hv.no
 have hp:=sameP_api a.me b.me hv.me
 by_cases hh : a.tick = b.tick ∧ a.me = b.me ∧ a.chunks.length = b.chunks.length ∧ a.others.length = b.others.length
 · obtain ⟨h1,h2,h3,h4⟩:=hh
   rw [eqv_iff.2 h2] at hp
   have hext:=fun e1 e2=>@viw_ext a b h1 h2 e1 e2
   refine Api.of_fin cfg_ok Try.func21 rfl (nt:=73) rfl rfl ?_
   conv=>whnf
   repeat' (first|exact trivial|((first|refine kL ?_|(refine ⟨fun hb=>?_,fun hb=>?_⟩<;>(try simp only [nrm] at hb)<;>(try (first|(exfalso;omega)|contradiction|exact kB hb)))|refine kA hp ?_|refine kD hp ?_|refine kW cfg_ok ?_|refine kC ?_|refine bdA ?_|refine bd2 ?_|refine bdR ?_|refine bdL ?_)<;>(conv=>whnf))|(refine And.intro ?_ ?_;rotate_left;(conv=>whnf);rotate_right))
   all_goals try omega
   refine Runs.loopS cfg_ok (σ:=Nat) [2,3,40,41] (fun k=>[.ptr 4 0,.ptr 6 0,i64 a.chunks.length,i64 k]) (fun _=>[(4,.box (viewC a)),(6,.box (viewC b))]) (fun k=>k ≤ a.chunks.length ∧ ∀ i < k,elt .chunk a.chunks i = elt .chunk b.chunks i) (fun k=>a.chunks.length - k) 0 ⟨by omega,by omega⟩ ?_ ?_
   · conv=>whnf
     repeat' (first|exact trivial|((first|refine kL ?_|(refine ⟨fun hb=>?_,fun hb=>?_⟩<;>(try simp only [nrm] at hb)<;>(try (first|(exfalso;omega)|contradiction|exact kB hb)))|refine kW cfg_ok ?_|refine kC ?_|refine bdA ?_|refine bd2 ?_|refine bdR ?_|refine bdL ?_)<;>(conv=>whnf))|(refine And.intro ?_ ?_;rotate_left;(conv=>whnf);rotate_right))
     all_goals first|rfl|omega|trace_state
   · rintro k ⟨hk,ht⟩
     by_cases hlt : k < a.chunks.length
     · have hok:=hv.chunks _ (elt_mem (t:=.chunk) hlt)
       by_cases he : elt .chunk a.chunks k = elt .chunk b.chunks k
       · have hsm:=same_self (elt .chunk a.chunks k) hok
         rw [show chunkV (elt .chunk a.chunks k) = chunkV (elt .chunk a.chunks k) from rfl] at hsm
         have hsm2 : Api Try.prog 11 [chunkV (elt .chunk a.chunks k),chunkV (elt .chunk b.chunks k)] (bol true):=by rw [← he];exact hsm
         conv=>whnf
         repeat' (first|exact trivial|((first|refine kL ?_|(refine ⟨fun hb=>?_,fun hb=>?_⟩<;>(try simp only [nrm] at hb)<;>(try (first|(exfalso;omega)|contradiction|exact kB hb)))|refine kA hsm2 ?_|refine kD hsm2 ?_|refine kW cfg_ok ?_|refine kC ?_|refine bdA ?_|refine bd2 ?_|refine bdR ?_|refine bdL ?_)<;>(conv=>whnf))|(refine And.intro ?_ ?_;rotate_left;(conv=>whnf);rotate_right))
         all_goals try omega
         all_goals
           refine .to (k + 1) ⟨by omega,fun i hi=>?_⟩ (by omega) ?_
           · by_cases hik : i = k
             · rw [hik];exact he
             · exact ht i (by omega)
           conv=>whnf
           repeat' (first|exact trivial|((first|refine kL ?_|(refine ⟨fun hb=>?_,fun hb=>?_⟩<;>(try simp only [nrm] at hb)<;>(try (first|(exfalso;omega)|contradiction|exact kB hb)))|refine kW cfg_ok ?_|refine kC ?_|refine bdA ?_|refine bd2 ?_|refine bdR ?_|refine bdL ?_)<;>(conv=>whnf))|(refine And.intro ?_ ?_;rotate_left;(conv=>whnf);rotate_right))
           all_goals first|rfl|omega|trace_state
       · have hsm:=same_ne (elt .chunk a.chunks k) (elt .chunk b.chunks k) hok he
         have hne : eqv a b = false:=eqv_false.2 fun e=>he (by rw [e])
         rw [hne]
         conv=>whnf
         repeat' (first|exact trivial|((first|refine kL ?_|(refine ⟨fun hb=>?_,fun hb=>?_⟩<;>(try simp only [nrm] at hb)<;>(try (first|(exfalso;omega)|contradiction|exact kB hb)))|refine kA hsm ?_|refine kD hsm ?_|refine kW cfg_ok ?_|refine kC ?_|refine bdA ?_|refine bd2 ?_|refine bdR ?_|refine bdL ?_)<;>(conv=>whnf))|(refine And.intro ?_ ?_;rotate_left;(conv=>whnf);rotate_right))
         all_goals first|rfl|omega|trace_state
     · obtain rfl : k = a.chunks.length:=by omega
       have hce : a.chunks = b.chunks:=elt_ext (tt:=.chunk) h3 ht
       conv=>whnf
       repeat' (first|exact trivial|((first|refine kL ?_|(refine ⟨fun hb=>?_,fun hb=>?_⟩<;>(try simp only [nrm] at hb)<;>(try (first|(exfalso;omega)|contradiction|exact kB hb)))|refine kW cfg_ok ?_|refine kC ?_|refine bdA ?_|refine bd2 ?_|refine bdR ?_|refine bdL ?_)<;>(conv=>whnf))|(refine And.intro ?_ ?_;rotate_left;(conv=>whnf);rotate_right))
       all_goals try omega
       refine Runs.loopS cfg_ok (σ:=Nat) [2,3,59,60] (fun k=>[.ptr 4 0,.ptr 6 0,i64 a.others.length,i64 k]) (fun _=>[(4,.box (viewC a)),(6,.box (viewC b))]) (fun k=>k ≤ a.others.length ∧ ∀ i < k,elt .seen a.others i = elt .seen b.others i) (fun k=>a.others.length - k) 0 ⟨by omega,by omega⟩ ?_ ?_
       · conv=>whnf
         repeat' (first|exact trivial|((first|refine kL ?_|(refine ⟨fun hb=>?_,fun hb=>?_⟩<;>(try simp only [nrm] at hb)<;>(try (first|(exfalso;omega)|contradiction|exact kB hb)))|refine kW cfg_ok ?_|refine kC ?_|refine bdA ?_|refine bd2 ?_|refine bdR ?_|refine bdL ?_)<;>(conv=>whnf))|(refine And.intro ?_ ?_;rotate_left;(conv=>whnf);rotate_right))
         all_goals first|rfl|omega|trace_state
       · rintro k ⟨hk,ht⟩
         by_cases hlt : k < a.others.length
         · by_cases he : elt .seen a.others k = elt .seen b.others k
           · have e1:=congrArg Seen.id he
             have e2:=congrArg Seen.x he
             have e3:=congrArg Seen.y he
             conv=>whnf
             repeat' (first|exact trivial|((first|refine kL ?_|(refine ⟨fun hb=>?_,fun hb=>?_⟩<;>(try simp only [nrm] at hb)<;>(try (first|(exfalso;omega)|contradiction|exact kB hb)))|refine kW cfg_ok ?_|refine kC ?_|refine bdA ?_|refine bd2 ?_|refine bdR ?_|refine bdL ?_)<;>(conv=>whnf))|(refine And.intro ?_ ?_;rotate_left;(conv=>whnf);rotate_right))
             all_goals try omega
             all_goals
               refine .to (k + 1) ⟨by omega,fun i hi=>?_⟩ (by omega) ?_
               · by_cases hik : i = k
                 · rw [hik];exact he
                 · exact ht i (by omega)
               conv=>whnf
               repeat' (first|exact trivial|((first|refine kL ?_|(refine ⟨fun hb=>?_,fun hb=>?_⟩<;>(try simp only [nrm] at hb)<;>(try (first|(exfalso;omega)|contradiction|exact kB hb)))|refine kW cfg_ok ?_|refine kC ?_|refine bdA ?_|refine bd2 ?_|refine bdR ?_|refine bdL ?_)<;>(conv=>whnf))|(refine And.intro ?_ ?_;rotate_left;(conv=>whnf);rotate_right))
               all_goals first|rfl|omega|trace_state
           · have hne : eqv a b = false:=eqv_false.2 fun e=>he (by rw [e])
             have hne2 : ¬ ((elt .seen a.others k).id = (elt .seen b.others k).id ∧ (elt .seen a.others k).x = (elt .seen b.others k).x ∧ (elt .seen a.others k).y = (elt .seen b.others k).y):=fun h=>he (seen_ext h.1 h.2.1 h.2.2)
             rw [hne]
             conv=>whnf
             repeat' (first|exact trivial|((first|refine kL ?_|(refine ⟨fun hb=>?_,fun hb=>?_⟩<;>(try simp only [nrm] at hb)<;>(try (first|(exfalso;omega)|contradiction|exact kB hb)))|refine kW cfg_ok ?_|refine kC ?_|refine bdA ?_|refine bd2 ?_|refine bdR ?_|refine bdL ?_)<;>(conv=>whnf))|(refine And.intro ?_ ?_;rotate_left;(conv=>whnf);rotate_right))
             all_goals first|rfl|omega|trace_state
         · obtain rfl : k = a.others.length:=by omega
           have heq : eqv a b = true:=eqv_iff.2 (hext hce (elt_ext (tt:=.seen) h4 ht))
           rw [heq]
           conv=>whnf
           repeat' (first|exact trivial|((first|refine kL ?_|(refine ⟨fun hb=>?_,fun hb=>?_⟩<;>(try simp only [nrm] at hb)<;>(try (first|(exfalso;omega)|contradiction|exact kB hb)))|refine kW cfg_ok ?_|refine kC ?_|refine bdA ?_|refine bd2 ?_|refine bdR ?_|refine bdL ?_)<;>(conv=>whnf))|(refine And.intro ?_ ?_;rotate_left;(conv=>whnf);rotate_right))
           all_goals first|rfl|omega|trace_state
 · have hne : eqv a b = false:=eqv_false.2 fun e=>hh (by rw [e];exact ⟨rfl,rfl,rfl,rfl⟩)
   rw [hne]
   by_cases h2 : a.me = b.me
   · rw [eqv_iff.2 h2] at hp
     have hh2 : ¬ (a.tick = b.tick ∧ a.chunks.length = b.chunks.length ∧ a.others.length = b.others.length):=fun h=>hh ⟨h.1,h2,h.2⟩
     refine Api.of_fin cfg_ok Try.func21 rfl (nt:=73) rfl rfl ?_
     conv=>whnf
     repeat' (first|exact trivial|((first|refine kL ?_|(refine ⟨fun hb=>?_,fun hb=>?_⟩<;>(try simp only [nrm] at hb)<;>(try (first|(exfalso;omega)|contradiction|exact kB hb)))|refine kA hp ?_|refine kD hp ?_|refine kW cfg_ok ?_|refine kC ?_|refine bdA ?_|refine bd2 ?_|refine bdR ?_|refine bdL ?_)<;>(conv=>whnf))|(refine And.intro ?_ ?_;rotate_left;(conv=>whnf);rotate_right))
     all_goals first|rfl|omega|trace_state
   · rw [eqv_false.2 h2] at hp
     refine Api.of_fin cfg_ok Try.func21 rfl (nt:=73) rfl rfl ?_
     conv=>whnf
     repeat' (first|exact trivial|((first|refine kL ?_|(refine ⟨fun hb=>?_,fun hb=>?_⟩<;>(try simp only [nrm] at hb)<;>(try (first|(exfalso;omega)|contradiction|exact kB hb)))|refine kA hp ?_|refine kD hp ?_|refine kW cfg_ok ?_|refine kC ?_|refine bdA ?_|refine bd2 ?_|refine bdR ?_|refine bdL ?_)<;>(conv=>whnf))|(refine And.intro ?_ ?_;rotate_left;(conv=>whnf);rotate_right))
     all_goals first|rfl|omega|trace_state
end Go.Proofs.Ytaecchphjploaaa
