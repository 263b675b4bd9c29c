/- homesteadref11, homesteadref13. -/
import Derived.Test.YtecbmeadcdchdaaGreatGn
import Derived.Test.YtecbmeadcdchdaaGreatGc
import Derived.Test.YtecbmeadcdchdaaGreatGf
import Derived.Test.YtecbmeadcdchdaaGreatGi
set_option linter.unusedSimpArgs false
set_option linter.unusedVariables false
set_option maxRecDepth 100000
set_option maxHeartbeats 16000000
namespace Go.Proofs.YtecbmeadcdchdaaGreat
open Go Go.RowKit Eng
def fillF (may : Slot → Bool) (i size : Int) : List Slot → Int → List Slot × Int
 | [],n=>([],n)
 | s :: r,n=>if may s = true ∧ 0 < min (size - s.n) n then (⟨i,s.n + min (size - s.n) n⟩ :: (fillF may i size r (n - min (size - s.n) n)).1,(fillF may i size r (n - min (size - s.n) n)).2)
   else (s :: (fillF may i size r n).1,(fillF may i size r n).2)
def both (l : List Slot) (i n : Int) : List Slot × Int:=fillF may0 i (stackN i) (fillF (mayI i) i (stackN i) l n).1 (fillF (mayI i) i (stackN i) l n).2
theorem take_next {tt : Ty} {l : List (El tt)} {k : Nat} (hk : k < l.length) : l.take (k + 1) = l.take k ++ [elt tt l k]:=by
 have:=elt_get tt l k hk
 rw [List.take_add_one,this];rfl
theorem refStack_api (i : Int) (h0 : 0 ≤ i) (h1 : i ≤ 255) : Api Tryz.prog 101 [.lit (.int .u8 i)] (i64 (stackN i)):=by
 refine Api.of_fin cfg_ok Tryz.func101 rfl (nt:=15) rfl rfl ?_
 conv=>whnf
 repeat' (first|exact trivial|((first|refine kL ?_|(refine ⟨fun hb=>?_,fun hb=>?_⟩<;>(try simp only [nrm] at hb)<;>(try (first|(exfalso;omega)|contradiction|exact kB hb)))|refine kW cfg_ok ?_|refine kC ?_|refine bdA ?_|refine bd2 ?_|refine bdR ?_|refine bdL ?_)<;>(conv=>whnf))|(refine And.intro ?_ ?_;rotate_left;(conv=>whnf);rotate_right))
 all_goals (refine congrArg (Value.int .i64) ?_;unfold stackN;(repeat' split)<;>omega)
theorem refRight_api (l : List (El .slot)) (n : Int) (hl : l.length ≤ big) (hw : ∀ s ∈ l,okSlot s) : Api Tryz.prog 72 [.vec .slot l,i64 n] (bol (decide ((l.length : Int) = n) && bagOk l)):=by
 unfold big at hl
 by_cases hn : (l.length : Int) = n
 · rw [decide_eq_true hn,Bool.true_and]
   refine Api.of_fin cfg_ok Tryz.func72 rfl (nt:=45) rfl rfl ?_
   conv=>whnf
   repeat' (first|exact trivial|((first|refine kL ?_|(refine ⟨fun hb=>?_,fun hb=>?_⟩<;>(try simp only [nrm] at hb)<;>(try (first|(exfalso;omega)|contradiction|exact kB hb)))|refine kW cfg_ok ?_|refine kC ?_|refine bdA ?_|refine bd2 ?_|refine bdR ?_|refine bdL ?_)<;>(conv=>whnf))|(refine And.intro ?_ ?_;rotate_left;(conv=>whnf);rotate_right))
   refine Runs.loopS cfg_ok (σ:=Nat) [0,5] (fun k=>[.vec .slot l,i64 k]) (fun _=>[]) (fun k=>k ≤ l.length ∧ bagOk (l.drop k) = bagOk l) (fun k=>l.length - k) 0 ⟨by omega,rfl⟩ ?_ ?_
   · conv=>whnf
     repeat' (first|exact trivial|((first|refine kL ?_|(refine ⟨fun hb=>?_,fun hb=>?_⟩<;>(try simp only [nrm] at hb)<;>(try (first|(exfalso;omega)|contradiction|exact kB hb)))|refine kW cfg_ok ?_|refine kC ?_|refine bdA ?_|refine bd2 ?_|refine bdR ?_|refine bdL ?_)<;>(conv=>whnf))|(refine And.intro ?_ ?_;rotate_left;(conv=>whnf);rotate_right))
   · rintro k ⟨hk,he⟩
     by_cases hlt : k < l.length
     · have hs:=refStack_api (elt .slot l k).item (hw _ (elt_mem (t:=.slot) hlt)).1 (hw _ (elt_mem (t:=.slot) hlt)).2
       have hE : elt .slot l (k : Int).toNat = elt .slot l k:=rfl
       have hstep : bagOk (l.drop k) = (!(badSlot (elt .slot l k)) && bagOk (l.drop (k + 1))):=by
         rw [drop_elt (t:=.slot) hlt];unfold bagOk;simp
       rw [hstep] at he
       cases hbs : badSlot (elt .slot l k) with
       | true =>
         rw [hbs] at he
         have hb2 : ¬ (((elt .slot l k).item = 0 ∧ (elt .slot l k).n = 0) ∨ (1 ≤ (elt .slot l k).n ∧ (elt .slot l k).n ≤ stackN (elt .slot l k).item)):=fun h=>by rw [badSlot_false.2 h] at hbs;cases hbs
         rw [← he]
         conv=>whnf
         repeat' (first|exact trivial|((first|refine kL ?_|(refine ⟨fun hb=>?_,fun hb=>?_⟩<;>(try simp only [nrm] at hb)<;>(try (first|(exfalso;omega)|contradiction|exact kB hb)))|refine kA hs ?_|refine kD hs ?_|refine kW cfg_ok ?_|refine kC ?_|refine bdA ?_|refine bd2 ?_|refine bdR ?_|refine bdL ?_)<;>(conv=>whnf))|(refine And.intro ?_ ?_;rotate_left;(conv=>whnf);rotate_right))
       | false =>
         rw [hbs] at he
         have hb2:=badSlot_false.1 hbs
         conv=>whnf
         repeat' (first|exact trivial|((first|refine kL ?_|(refine ⟨fun hb=>?_,fun hb=>?_⟩<;>(try simp only [nrm] at hb)<;>(try (first|(exfalso;omega)|contradiction|exact kB hb)))|refine kA hs ?_|refine kD hs ?_|refine kW cfg_ok ?_|refine kC ?_|refine bdA ?_|refine bd2 ?_|refine bdR ?_|refine bdL ?_)<;>(conv=>whnf))|(refine And.intro ?_ ?_;rotate_left;(conv=>whnf);rotate_right))
         all_goals
           refine .to (k + 1) ⟨hlt,by rw [← he];rfl⟩ (by omega) ?_
           conv=>whnf
           repeat' (first|exact trivial|((first|refine kL ?_|(refine ⟨fun hb=>?_,fun hb=>?_⟩<;>(try simp only [nrm] at hb)<;>(try (first|(exfalso;omega)|contradiction|exact kB hb)))|refine kW cfg_ok ?_|refine kC ?_|refine bdA ?_|refine bd2 ?_|refine bdR ?_|refine bdL ?_)<;>(conv=>whnf))|(refine And.intro ?_ ?_;rotate_left;(conv=>whnf);rotate_right))
     · obtain rfl : k = l.length:=by omega
       rw [List.drop_length] at he
       rw [← he]
       conv=>whnf
       repeat' (first|exact trivial|((first|refine kL ?_|(refine ⟨fun hb=>?_,fun hb=>?_⟩<;>(try simp only [nrm] at hb)<;>(try (first|(exfalso;omega)|contradiction|exact kB hb)))|refine kW cfg_ok ?_|refine kC ?_|refine bdA ?_|refine bd2 ?_|refine bdR ?_|refine bdL ?_)<;>(conv=>whnf))|(refine And.intro ?_ ?_;rotate_left;(conv=>whnf);rotate_right))
       all_goals rfl
 · rw [decide_eq_false hn,Bool.false_and]
   refine Api.of_fin cfg_ok Tryz.func72 rfl (nt:=45) rfl rfl ?_
   conv=>whnf
   repeat' (first|exact trivial|((first|refine kL ?_|(refine ⟨fun hb=>?_,fun hb=>?_⟩<;>(try simp only [nrm] at hb)<;>(try (first|(exfalso;omega)|contradiction|exact kB hb)))|refine kW cfg_ok ?_|refine kC ?_|refine bdA ?_|refine bd2 ?_|refine bdR ?_|refine bdL ?_)<;>(conv=>whnf))|(refine And.intro ?_ ?_;rotate_left;(conv=>whnf);rotate_right))
open Go Go.RowKit Eng
theorem spendR_zero0 (i : Int) {n : Int} (hn : n ≤ 0) : ∀ l : List Slot,spendR i l n = l
 | []=>rfl
 | s :: r=>by simp only [spendR];rw [if_pos hn]
theorem rev_take {l : List Slot} {j : Nat} (h : j < l.length) : (l.take (j + 1)).reverse = elt .slot l j :: (l.take j).reverse:=by
 rw [List.take_add_one,elt_get .slot l j h,List.reverse_append];rfl
theorem elt_take {l r : List Slot} {j k : Nat} (h : r.take k = l.take k) (hj : j < k) : elt .slot r j = elt .slot l j:=by
 unfold elt
 have h1 : (r.take k)[j]? = r[j]?:=by rw [List.getElem?_take,if_pos hj]
 have h2 : (l.take k)[j]? = l[j]?:=by rw [List.getElem?_take,if_pos hj]
 rw [← h1,← h2,h]
structure SpI (l : List Slot) (i N : Int) (j : Nat) (n : Int) (r : List Slot) : Prop where
 jl : j ≤ l.length
 len : r.length = l.length
 nz : 0 ≤ n
 nn : n ≤ 9223372036854775807
 pre : r.take j = l.take j
 out : (spendR i (l.take j).reverse n).reverse ++ r.drop j = spendL l i N
theorem SpI.hit {l : List Slot} {i n0 : Int} {j : Nat} {n : Int} {r : List Slot} (h : SpI l i n0 (j + 1) n r) (hi : (elt .slot r j).item = i) (hn : 0 < n) (hs : 0 ≤ (elt .slot r j).n) :
   SpI l i n0 j (n - min (elt .slot r j).n n) (r.set j (lessS (elt .slot r j) (min (elt .slot r j).n n))):=by
 have hj:=h.jl
 have hl:=h.len
 have he:=elt_take h.pre (Nat.lt_succ_self j)
 refine ⟨by omega,by rw [List.length_set];exact hl,by omega,by have:=h.nn;omega,?_,?_⟩
 · rw [List.take_set_of_le (Nat.le_refl j)]
   have:=congrArg (List.take j) h.pre
   rwa [List.take_take,List.take_take,Nat.min_eq_left (by omega)] at this
 · rw [← h.out,rev_take (by omega),← he]
   simp only [spendR]
   rw [if_neg (by omega),if_pos hi,List.reverse_cons,List.append_assoc]
   congr 1
   rw [List.drop_set,if_neg (by omega),Nat.sub_self,drop_elt (t:=.slot) (by omega : j < r.length)]
   rfl
theorem SpI.miss {l : List Slot} {i n0 : Int} {j : Nat} {n : Int} {r : List Slot} (h : SpI l i n0 (j + 1) n r) (hi : ¬ (elt .slot r j).item = i) (hn : 0 < n) : SpI l i n0 j n r:=by
 have hj:=h.jl
 have hl:=h.len
 have he:=elt_take h.pre (Nat.lt_succ_self j)
 refine ⟨by omega,hl,h.nz,h.nn,?_,?_⟩
 · have:=congrArg (List.take j) h.pre
   rwa [List.take_take,List.take_take,Nat.min_eq_left (by omega)] at this
 · rw [← h.out,rev_take (by omega),← he]
   simp only [spendR]
   rw [if_neg (by omega),if_neg hi,List.reverse_cons,List.append_assoc]
   congr 1
   rw [drop_elt (t:=.slot) (by omega : j < r.length)]
   rfl
theorem SpI.done {l : List Slot} {i n0 : Int} {j : Nat} {n : Int} {r : List Slot} (h : SpI l i n0 j n r) (hd : j = 0 ∨ n ≤ 0) : r = spendL l i n0:=by
 rw [← h.out]
 rcases hd with rfl|hd
 · simp [spendR]
 · rw [spendR_zero0 i hd,List.reverse_reverse,← h.pre,List.take_append_drop]
open Go Go.RowKit Eng
def sumF {α : Type} (f : α → Int) : List α → Int
 | []=>0
 | a :: r=>f a + sumF f r
def bc (i : Int) (b : Box) : Int:=countS b.bag i
def cc (i : Int) (c : Chunk) : Int:=countS (c.heaps.map (·.slot)) i + sumF (bc i) c.boxes
open Go Go.RowKit Eng
open Go Go.RowKit Eng
open Go Go.RowKit Eng
open Go Go.RowKit Eng
open Go Go.RowKit Eng
open Go Go.RowKit Eng
theorem f0 {x y z u : Bool} (h : x = false) : (x && (y && (z && u))) = false:=by rw [h];rfl
theorem f1 {x y z u : Bool} (h : y = false) : (x && (y && (z && u))) = false:=by rw [h];simp
theorem f2 {x y z u : Bool} (h : z = false) : (x && (y && (z && u))) = false:=by rw [h];simp
theorem f3 {x y z u : Bool} (h : u = false) : (x && (y && (z && u))) = false:=by rw [h];simp
open Go Go.RowKit Eng
theorem blockB_iff {i : Int} : blockB i = true ↔ 1 ≤ i ∧ i ≤ 5 ∨ i = 7 ∨ i = 9 ∨ i = 10:=by
 unfold blockB
 simp only [decide_eq_true_eq,Bool.and_eq_true,Bool.not_eq_true',decide_eq_false_iff_not]
 omega
theorem r08block_api (i : Int) (h0 : 0 ≤ i) (h1 : i ≤ 255) : Api Tryz.prog 71 [.lit (.int .u8 i)] (bol (blockB i)):=by
 have hb1:=@blockB_iff i
 cases hB : blockB i with
 | true =>
   have hb2:=hb1.1 hB
   refine Api.of_fin cfg_ok Tryz.func71 rfl (nt:=20) rfl rfl ?_
   ((try with_reducible refine evCut fun N hN hE hT=>?_);(conv=>whnf))
   repeat' (first|exact trivial|((first|((first|refine hT _ _ ?_|refine hE _ _ _ ?_|refine hN _ _ ?_);clear hN hE hT)|refine kL ?_|(refine ⟨fun hb=>?_,fun hb=>?_⟩<;>(try simp only [nrm] at hb)<;>(try (first|(exfalso;omega)|contradiction|exact kB hb)))|refine kW cfg_ok ?_|refine kC ?_|refine bdA ?_|refine bd2 ?_|refine bdR ?_|refine bdL ?_)<;>((try with_reducible refine evCut fun N hN hE hT=>?_);(conv=>whnf)))|(refine And.intro ?_ ?_;rotate_left;(conv=>whnf);rotate_right))
   all_goals first|rfl|omega|(refine congrArg Value.bool ?_;simp;omega)|trace_state
 | false =>
   have hb2 : ¬ (1 ≤ i ∧ i ≤ 5 ∨ i = 7 ∨ i = 9 ∨ i = 10):=fun h=>by rw [hb1.2 h] at hB;cases hB
   refine Api.of_fin cfg_ok Tryz.func71 rfl (nt:=20) rfl rfl ?_
   ((try with_reducible refine evCut fun N hN hE hT=>?_);(conv=>whnf))
   repeat' (first|exact trivial|((first|((first|refine hT _ _ ?_|refine hE _ _ _ ?_|refine hN _ _ ?_);clear hN hE hT)|refine kL ?_|(refine ⟨fun hb=>?_,fun hb=>?_⟩<;>(try simp only [nrm] at hb)<;>(try (first|(exfalso;omega)|contradiction|exact kB hb)))|refine kW cfg_ok ?_|refine kC ?_|refine bdA ?_|refine bd2 ?_|refine bdR ?_|refine bdL ?_)<;>((try with_reducible refine evCut fun N hN hE hT=>?_);(conv=>whnf)))|(refine And.intro ?_ ?_;rotate_left;(conv=>whnf);rotate_right))
   all_goals first|rfl|omega|(refine congrArg Value.bool ?_;simp;omega)|trace_state
open Go Go.RowKit Eng
theorem risesK_adj {α : Type} {key : α → Int} : ∀ {l : List α},(∀ i a b,l[i]? = some a → l[i + 1]? = some b → key a < key b) → risesK key l
 | [],_=>trivial
 | [a],_=>⟨by simp,trivial⟩
 | a :: b :: r,h=>by
   have ih:=risesK_adj (l:=b :: r) fun i x y hx hy=>h (i + 1) x y (by simpa using hx) (by simpa using hy)
   refine ⟨fun x hx=>?_,ih⟩
   have h0:=h 0 a b rfl rfl
   rcases List.mem_cons.1 hx with rfl|hx
   · exact h0
   · have:=ih.1 x hx;omega
theorem chunkW_get {w : Wld} (hR : RW w) {x y : Int} (h0 : 0 ≤ x) (h1 : x < w.size) (h2 : 0 ≤ y) (h3 : y < w.size) : chunkW w x y = ((getK keyC w.chunks (16 * y + x)).getD (genC w.seed x y),true):=by
 have hs:=hR.size
 obtain ⟨e1,e2⟩:=bsC_rises hR.rc hR.xy (x:=x) (y:=y) h0 (by omega)
 have hk : keyC (atC x y) = 16 * y + x:=rfl
 rw [hk] at e1 e2
 have hin : insideW w.size x y = true:=by simp only [insideW,Bool.and_eq_true,decide_eq_true_eq];omega
 unfold chunkW
 rw [if_neg (by rw [hin,rightW_iff.2 hR];simp)]
 rw [e2]
 cases hg : getK keyC w.chunks (16 * y + x) with
 | none=>rw [if_neg (by simp)];rfl
 | some c =>
   rw [if_pos (by simp),e1]
   obtain ⟨h4,h5⟩:=lbK_lt hR.rc hg
   have h6:=elt_get .chunk w.chunks _ h4
   rw [h5] at h6
   rw [← Option.some.inj h6];rfl
theorem chunkW_out {w : Wld} {x y : Int} (h : rightW w = false ∨ ¬ (0 ≤ x ∧ x < w.size ∧ 0 ≤ y ∧ y < w.size)) : chunkW w x y = (atC 0 0,false):=by
 unfold chunkW
 rw [if_pos]
 rcases h with h|h
 · exact .inr h
 · left
   simp only [insideW,Bool.and_eq_false_iff,decide_eq_false_iff_not]
   omega
theorem getC_at {l : List Chunk} (h : risesK keyC l) (hl : ∀ c ∈ l,0 ≤ c.x ∧ c.x < 16) {k : Nat} (hk : k < l.length) : getK keyC l (16 * (elt .chunk l k).y + (elt .chunk l k).x) = some (elt .chunk l k):=
 getK_of_mem h (List.mem_of_getElem? (elt_get .chunk l k hk))
theorem getC_none {l : List Chunk} (hl : ∀ c ∈ l,0 ≤ c.x ∧ c.x < 16) {x y : Int} (h0 : 0 ≤ x) (h1 : x < 16) (hn : ∀ k < l.length,¬ ((elt .chunk l k).x = x ∧ (elt .chunk l k).y = y)) : getK keyC l (16 * y + x) = none:=
 getK_none.2 fun c hc he=>by
   obtain ⟨k,hk,rfl⟩:=List.getElem_of_mem hc
   have h2:=elt_get .chunk l k hk
   rw [List.getElem?_eq_getElem hk] at h2
   have h3:=hn k hk
   rw [← Option.some.inj h2] at h3
   have:=hl _ hc
   unfold keyC at he
   omega
theorem getP_none {l : List Player} {id : Int} (hn : ∀ k < l.length,¬ (elt .player l k).id = id) : getK pid l id = none:=
 getK_none.2 fun c hc he=>by
   obtain ⟨k,hk,rfl⟩:=List.getElem_of_mem hc
   have h2:=elt_get .player l k hk
   rw [List.getElem?_eq_getElem hk] at h2
   have h3:=hn k hk
   rw [← Option.some.inj h2] at h3
   exact h3 he
theorem getP_at {l : List Player} (h : risesK pid l) {k : Nat} (hk : k < l.length) : getK pid l (elt .player l k).id = some (elt .player l k):=
 getK_of_mem h (List.mem_of_getElem? (elt_get .player l k hk))
structure SeenC (w : Wld) (k : Nat) : Prop where
 le : k ≤ w.chunks.length
 right : ∀ i < k,rightB (elt .chunk w.chunks i) = true ∧ (elt .chunk w.chunks i).x < w.size ∧ (elt .chunk w.chunks i).y < w.size
 up : ∀ i,i + 1 < k → keyC (elt .chunk w.chunks i) < keyC (elt .chunk w.chunks (i + 1))
structure SeenP (w : Wld) (k : Nat) : Prop where
 le : k ≤ w.players.length
 right : ∀ i < k,soundB (elt .player w.players i) = true ∧ withinW w.size (elt .player w.players i).x (elt .player w.players i).y = true
 up : ∀ i,i + 1 < k → (elt .player w.players i).id < (elt .player w.players (i + 1)).id
theorem mem_elt {tt : Ty} {l : List (El tt)} {a : El tt} (h : a ∈ l) : ∃ k,k < l.length ∧ elt tt l k = a:=by
 obtain ⟨k,hk,rfl⟩:=List.getElem_of_mem h
 have h2:=elt_get tt l k hk
 rw [List.getElem?_eq_getElem hk] at h2
 exact ⟨k,hk,(Option.some.inj h2).symm⟩
theorem SeenC.rises {w : Wld} (h : SeenC w w.chunks.length) : risesK keyC w.chunks:=risesK_adj fun i a b ha hb=>by
 have hlt:=(List.getElem?_eq_some_iff.1 hb).1
 have e1:=elt_get .chunk w.chunks i (by omega)
 have e2:=elt_get .chunk w.chunks (i + 1) hlt
 rw [ha] at e1
 rw [hb] at e2
 have:=h.up i hlt
 rw [← Option.some.inj e1,← Option.some.inj e2] at this
 exact this
theorem SeenP.rises {w : Wld} (h : SeenP w w.players.length) : risesK pid w.players:=risesK_adj fun i a b ha hb=>by
 have hlt:=(List.getElem?_eq_some_iff.1 hb).1
 have e1:=elt_get .player w.players i (by omega)
 have e2:=elt_get .player w.players (i + 1) hlt
 rw [ha] at e1
 rw [hb] at e2
 have:=h.up i hlt
 rw [← Option.some.inj e1,← Option.some.inj e2] at this
 exact this
theorem right_seen {w : Wld} (hh : headW w = true) (hc : SeenC w w.chunks.length) (hp : SeenP w w.players.length) : rightW w = true:=
 rightW_iff.2 ⟨hh,fun c hm=>by obtain ⟨k,hk,rfl⟩:=mem_elt (tt:=.chunk) hm;have:=hc.right k hk;exact ⟨this.1,by omega⟩,hc.rises,hp.rises,
   fun p hm=>by obtain ⟨k,hk,rfl⟩:=mem_elt (tt:=.player) hm;exact hp.right k hk⟩
theorem wrong_of {w : Wld} {p : Prop} (h : RW w → False) : rightW w = false:=by
 cases hR : rightW w with
 | false=>rfl
 | true=>exact (h (rightW_iff.1 hR)).elim
theorem RW.chunkAt {w : Wld} (h : RW w) {k : Nat} (hk : k < w.chunks.length) : rightB (elt .chunk w.chunks k) = true ∧ (elt .chunk w.chunks k).x < w.size ∧ (elt .chunk w.chunks k).y < w.size:=by
 have:=h.chunks _ (elt_mem (t:=.chunk) hk)
 exact ⟨this.1,by omega,by omega⟩
theorem RW.chunkUp {w : Wld} (h : RW w) {k : Nat} (hk : k + 1 < w.chunks.length) : keyC (elt .chunk w.chunks k) < keyC (elt .chunk w.chunks (k + 1)):=
 risesK_lt h.rc (Nat.lt_succ_self k) (elt_get .chunk w.chunks k (by omega)) (elt_get .chunk w.chunks (k + 1) hk)
theorem RW.playerAt {w : Wld} (h : RW w) {k : Nat} (hk : k < w.players.length) : soundB (elt .player w.players k) = true ∧ withinW w.size (elt .player w.players k).x (elt .player w.players k).y = true:=h.players _ (elt_mem (t:=.player) hk)
theorem RW.playerUp {w : Wld} (h : RW w) {k : Nat} (hk : k + 1 < w.players.length) : (elt .player w.players k).id < (elt .player w.players (k + 1)).id:=
 risesK_lt h.rp (Nat.lt_succ_self k) (elt_get .player w.players k (by omega)) (elt_get .player w.players (k + 1) hk)
def refS (p : Player) : List Player → Bool → List Player
 | [],d=>if d = true then [] else [p]
 | q :: r,d=>(if d = false ∧ p.id ≤ q.id then [p] else []) ++ ((if q.id = p.id then [] else [q]) ++ refS p r (d || decide (p.id ≤ q.id)))
theorem refS_cons (p q : Player) (r : List Player) (d : Bool) : refS p (q :: r) d = (if d = false ∧ p.id ≤ q.id then [p] else []) ++ ((if q.id = p.id then [] else [q]) ++ refS p r (d || decide (p.id ≤ q.id))):=rfl
theorem refS_lt {p q : Player} {r : List Player} (h : q.id < p.id) : refS p (q :: r) false = q :: refS p r false:=by
 rw [refS_cons,if_neg (show ¬ (false = false ∧ p.id ≤ q.id) by omega),if_neg (show ¬ q.id = p.id by omega),decide_eq_false (show ¬ p.id ≤ q.id by omega)]
 rfl
theorem refS_eq {p q : Player} {r : List Player} (h : q.id = p.id) : refS p (q :: r) false = p :: refS p r true:=by
 rw [refS_cons,if_pos (show false = false ∧ p.id ≤ q.id from ⟨rfl,by omega⟩),if_pos h,decide_eq_true (show p.id ≤ q.id by omega)]
 rfl
theorem refS_gt {p q : Player} {r : List Player} (h : p.id < q.id) : refS p (q :: r) false = p :: q :: refS p r true:=by
 rw [refS_cons,if_pos (show false = false ∧ p.id ≤ q.id from ⟨rfl,by omega⟩),if_neg (show ¬ q.id = p.id by omega),decide_eq_true (show p.id ≤ q.id by omega)]
 rfl
theorem refS_done {p : Player} : ∀ {l : List Player},(∀ q ∈ l,p.id < q.id) → refS p l true = l
 | [],_=>rfl
 | q :: r,h=>by
   have h1:=h q (by simp)
   have ih:=refS_done (l:=r) fun x hx=>h x (by simp [hx])
   rw [refS_cons,if_neg (show ¬ (true = false ∧ p.id ≤ q.id) by simp),if_neg (show ¬ q.id = p.id by omega),Bool.true_or,ih]
   rfl
theorem refS_setL {p : Player} : ∀ {l : List Player},risesK pid l → refS p l false = setL l p
 | [],_=>rfl
 | q :: r,h=>by
   have ih:=refS_setL (p:=p) h.2
   unfold setL at *
   have h0 : ∀ x ∈ r,q.id < x.id:=h.1
   by_cases h1 : q.id < p.id
   · rw [refS_lt h1,ih]
     show _ = insK pid p (if q.id < p.id then q :: delK pid p.id r else _)
     rw [if_pos h1]
     show _ = (if q.id < p.id then _ else _)
     rw [if_pos h1]
   · by_cases h2 : q.id = p.id
     · have hr : ∀ x ∈ r,p.id < x.id:=fun x hx=>by have:=h0 x hx;omega
       rw [refS_eq h2,refS_done hr]
       show _ = insK pid p (if q.id < p.id then _ else if q.id = p.id then r else _)
       rw [if_neg h1,if_pos h2]
       cases r with
       | nil=>rfl
       | cons a r =>
         have:=hr a (by simp)
         show _ = (if a.id < p.id then _ else _)
         rw [if_neg (by omega)]
     · have hr : ∀ x ∈ r,p.id < x.id:=fun x hx=>by have:=h0 x hx;omega
       rw [refS_gt (by omega),refS_done hr]
       show _ = insK pid p (if q.id < p.id then _ else if q.id = p.id then r else q :: r)
       rw [if_neg h1,if_neg h2]
       show _ = (if q.id < p.id then _ else _)
       rw [if_neg h1]
theorem growO {α : Type} {B : List α} {x y : α} (h : x = y) : List.take (B.length + 1) (List.take B.length B ++ [x]) = B ++ [y]:=by subst h;rw [List.take_length];exact List.take_of_length_le (by simp)
theorem takekk {α : Type} (l : List α) (k : Nat) : List.take k (List.take k l) = List.take k l:=by rw [List.take_take,Nat.min_self]
theorem app1 {α : Type} {l X : List α} {k n : Nat} {a b : α} (hb : l.take (k + 1) = l.take k ++ [b]) (hk : k < l.length) (hX : X = l.take k) (ha : a = b) (hn : n = k + 1) : List.take n (X ++ [a]) = l.take (k + 1):=by
 subst hX ha hn
 rw [hb]
 exact List.take_of_length_le (by simp;omega)
open Go Go.RowKit Eng
theorem r11slot_api (s : Slot) (h : okSlot s) : Api Tryz.prog 73 [.agg [.lit (.int .u8 s.item),.lit (.int .i64 s.n)]] (bol (someB s)):=by
 have h1:=refStack_api s.item h.1 h.2
 refine Api.of_fin cfg_ok Tryz.func73 rfl (nt:=13) rfl rfl ?_
 conv=>whnf
 repeat' (first|exact trivial|((first|refine kL ?_|(refine ⟨fun hb=>?_,fun hb=>?_⟩<;>(try simp only [nrm] at hb)<;>(try (first|(exfalso;omega)|contradiction|exact kB hb)))|refine kA h1 ?_|refine kD h1 ?_|refine kW cfg_ok ?_|refine kC ?_|refine bdA ?_|refine bd2 ?_|refine bdR ?_|refine bdL ?_)<;>(conv=>whnf))|(refine And.intro ?_ ?_;rotate_left;(conv=>whnf);rotate_right))
 all_goals (refine congrArg Value.bool ?_;rw [Bool.eq_iff_iff];simp only [someB,Bool.and_eq_true,Bool.or_eq_true,Bool.not_eq_true',Bool.and_eq_false_iff,Bool.or_eq_false_iff,decide_eq_true_eq,decide_eq_false_iff_not,beq_iff_eq,beq_eq_false_iff_ne,bne_iff_ne,ne_eq,Bool.false_eq_true,Int.toNat_natCast,eq_self,iff_true,true_iff,iff_false,false_iff,Bool.true_eq_false,not_and,Decidable.not_not,not_true_eq_false,not_false_eq_true];(first|done|omega|(simp_all;done)|(simp_all;omega)))
theorem rightB_heap {c : Chunk} (h : c.heaps.any badHeap = true) : rightB c = false:=by
 unfold rightB
 rw [h]
 cases headB c
 · rfl
 · simp only [Bool.true_and]
   split<;>rfl
theorem rightB_boxes {c : Chunk} {bs : List Box} (hh : headB c = true) (h : rightGo c.cells 0 c.boxes = some bs) (hp : c.heaps.any badHeap = false) : rightB c = decide (bs.length = 0):=by
 unfold rightB
 rw [hh,h,hp]
 cases bs<;>rfl
theorem r11right_api (c : Chunk) (hc : OkC c) : Api Tryz.prog 35 [chunkV c] (bol (rightB c)):=by
 have nc:=hc.nc
 have nb:=hc.nb
 have nh:=hc.nh
 unfold big at nc nb nh
 refine Api.of_fin cfg_ok Tryz.func35 rfl (nt:=125) rfl rfl ?_
 conv=>whnf
 repeat' (first|exact trivial|((first|refine kL ?_|(refine ⟨fun hb=>?_,fun hb=>?_⟩<;>(try simp only [nrm] at hb)<;>(try (first|(exfalso;omega)|contradiction|exact kB hb)))|refine kW cfg_ok ?_|refine kC ?_|refine bdA ?_|refine bd2 ?_|refine bdR ?_|refine bdL ?_)<;>(conv=>whnf))|(refine And.intro ?_ ?_;rotate_left;(conv=>whnf);rotate_right))
 all_goals (try (rw [rightB_head (by simp only [headB,Bool.and_eq_false_iff,decide_eq_false_iff_not];omega)];done))
 have hH : headB c = true:=by simp only [headB,Bool.and_eq_true,decide_eq_true_eq];omega
 refine Runs.loopS cfg_ok (σ:=Nat × Nat) [1,3,4] (fun (k,b)=>[.ptr 2 0,i64 b,i64 k]) (fun _=>[(2,.box (chunkC c))]) (fun (k,b)=>k ≤ 64 ∧ b ≤ c.boxes.length ∧ rightGo (c.cells.drop k) k (c.boxes.drop b) = rightGo c.cells 0 c.boxes) (fun (k,_)=>64 - k) (0,0) ⟨by omega,by omega,rfl⟩ ?_ ?_
 · conv=>whnf
   repeat' (first|exact trivial|((first|refine kL ?_|(refine ⟨fun hb=>?_,fun hb=>?_⟩<;>(try simp only [nrm] at hb)<;>(try (first|(exfalso;omega)|contradiction|exact kB hb)))|refine kW cfg_ok ?_|refine kC ?_|refine bdA ?_|refine bd2 ?_|refine bdR ?_|refine bdL ?_)<;>(conv=>whnf))|(refine And.intro ?_ ?_;rotate_left;(conv=>whnf);rotate_right))
 · rintro ⟨k,b⟩ ⟨hk,hb1,he⟩
   try dsimp only at hk hb1 he
   by_cases hlt : k < 64
   · rw [drop_elt (t:=.u8) (by omega)] at he
     simp only [rightGo] at he
     have hcell:=hc.cells _ (elt_mem (t:=.u8) (i:=k) (by omega))
     have hbl:=r08block_api (elt .u8 c.cells k) hcell.1 hcell.2
     have hE : elt .u8 c.cells (k : Int).toNat = elt .u8 c.cells k:=rfl
     cases hI : itemOk (elt .u8 c.cells k) with
     | false =>
       rw [hI,if_neg (by simp)] at he
       rw [rightB_none he.symm]
       have hi0 : ¬ elt .u8 c.cells k = 0:=by intro h;rw [h] at hI;cases hI
       have hib : blockB (elt .u8 c.cells k) = false:=by simpa [itemOk,hi0] using hI
       rw [hib] at hbl
       conv=>whnf
       repeat' (first|exact trivial|((first|refine kL ?_|(refine ⟨fun hb=>?_,fun hb=>?_⟩<;>(try simp only [nrm] at hb)<;>(try (first|(exfalso;omega)|contradiction|exact kB hb)))|refine kA hbl ?_|refine kD hbl ?_|refine kW cfg_ok ?_|refine kC ?_|refine bdA ?_|refine bd2 ?_|refine bdR ?_|refine bdL ?_)<;>(conv=>whnf))|(refine And.intro ?_ ?_;rotate_left;(conv=>whnf);rotate_right))
     | true =>
       rw [hI,if_pos rfl] at he
       by_cases h0 : elt .u8 c.cells k = 0
       · rw [if_neg (by rw [h0];decide)] at he
         conv=>whnf
         repeat' (first|exact trivial|((first|refine kL ?_|(refine ⟨fun hb=>?_,fun hb=>?_⟩<;>(try simp only [nrm] at hb)<;>(try (first|(exfalso;omega)|contradiction|exact kB hb)))|refine kA hbl ?_|refine kD hbl ?_|refine kW cfg_ok ?_|refine kC ?_|refine bdA ?_|refine bd2 ?_|refine bdR ?_|refine bdL ?_)<;>(conv=>whnf))|(refine And.intro ?_ ?_;rotate_left;(conv=>whnf);rotate_right))
         refine .to (k + 1,b) ⟨by first|omega|(dsimp only;omega),hb1,he⟩ (by first|omega|(dsimp only;omega)) ?_
         conv=>whnf
         repeat' (first|exact trivial|((first|refine kL ?_|(refine ⟨fun hb=>?_,fun hb=>?_⟩<;>(try simp only [nrm] at hb)<;>(try (first|(exfalso;omega)|contradiction|exact kB hb)))|refine kW cfg_ok ?_|refine kC ?_|refine bdA ?_|refine bd2 ?_|refine bdR ?_|refine bdL ?_)<;>(conv=>whnf))|(refine And.intro ?_ ?_;rotate_left;(conv=>whnf);rotate_right))
       · have hib : blockB (elt .u8 c.cells k) = true:=by simpa [itemOk,h0] using hI
         rw [hib] at hbl
         by_cases h9 : elt .u8 c.cells k = 9
         · rw [if_pos h9] at he
           by_cases hbn : b < c.boxes.length
           · rw [drop_elt (t:=.box) hbn] at he
             dsimp only at he
             have hbx:=hc.boxes _ (elt_mem (t:=.box) hbn)
             have hbg:=refRight_api (elt .box c.boxes b).bag 6 hbx.2 hbx.1
             have hE2 : (elt .box c.boxes (b : Int).toNat).cell = (elt .box c.boxes b).cell:=rfl
             by_cases hck : (elt .box c.boxes b).cell = k
             · cases hA : boxAt (elt .box c.boxes b) k with
               | false =>
                 rw [hA,if_neg (by simp)] at he
                 rw [rightB_none he.symm]
                 have hA2 : (decide (((elt .box c.boxes b).bag.length : Int) = 6) && bagOk (elt .box c.boxes b).bag) = false:=by simpa [boxAt,hck] using hA
                 rw [hA2] at hbg
                 conv=>whnf
                 repeat' (first|exact trivial|((first|refine kL ?_|(refine ⟨fun hb=>?_,fun hb=>?_⟩<;>(try simp only [nrm] at hb)<;>(try (first|(exfalso;omega)|contradiction|exact kB hb)))|refine kA hbl ?_|refine kD hbl ?_|refine kA hbg ?_|refine kD hbg ?_|refine kW cfg_ok ?_|refine kC ?_|refine bdA ?_|refine bd2 ?_|refine bdR ?_|refine bdL ?_)<;>(conv=>whnf))|(refine And.intro ?_ ?_;rotate_left;(conv=>whnf);rotate_right))
               | true =>
                 rw [hA,if_pos rfl] at he
                 have hA2 : (decide (((elt .box c.boxes b).bag.length : Int) = 6) && bagOk (elt .box c.boxes b).bag) = true:=by simpa [boxAt,hck] using hA
                 rw [hA2] at hbg
                 conv=>whnf
                 repeat' (first|exact trivial|((first|refine kL ?_|(refine ⟨fun hb=>?_,fun hb=>?_⟩<;>(try simp only [nrm] at hb)<;>(try (first|(exfalso;omega)|contradiction|exact kB hb)))|refine kA hbl ?_|refine kD hbl ?_|refine kA hbg ?_|refine kD hbg ?_|refine kW cfg_ok ?_|refine kC ?_|refine bdA ?_|refine bd2 ?_|refine bdR ?_|refine bdL ?_)<;>(conv=>whnf))|(refine And.intro ?_ ?_;rotate_left;(conv=>whnf);rotate_right))
                 refine .to (k + 1,b + 1) ⟨by first|omega|(dsimp only;omega),hbn,he⟩ (by first|omega|(dsimp only;omega)) ?_
                 conv=>whnf
                 repeat' (first|exact trivial|((first|refine kL ?_|(refine ⟨fun hb=>?_,fun hb=>?_⟩<;>(try simp only [nrm] at hb)<;>(try (first|(exfalso;omega)|contradiction|exact kB hb)))|refine kW cfg_ok ?_|refine kC ?_|refine bdA ?_|refine bd2 ?_|refine bdR ?_|refine bdL ?_)<;>(conv=>whnf))|(refine And.intro ?_ ?_;rotate_left;(conv=>whnf);rotate_right))
             · have hA : boxAt (elt .box c.boxes b) k = false:=by simp [boxAt,hck]
               rw [hA,if_neg (by simp)] at he
               rw [rightB_none he.symm]
               conv=>whnf
               repeat' (first|exact trivial|((first|refine kL ?_|(refine ⟨fun hb=>?_,fun hb=>?_⟩<;>(try simp only [nrm] at hb)<;>(try (first|(exfalso;omega)|contradiction|exact kB hb)))|refine kA hbl ?_|refine kD hbl ?_|refine kA hbg ?_|refine kD hbg ?_|refine kW cfg_ok ?_|refine kC ?_|refine bdA ?_|refine bd2 ?_|refine bdR ?_|refine bdL ?_)<;>(conv=>whnf))|(refine And.intro ?_ ?_;rotate_left;(conv=>whnf);rotate_right))
           · rw [List.drop_of_length_le (by omega)] at he
             dsimp only at he
             rw [rightB_none he.symm]
             conv=>whnf
             repeat' (first|exact trivial|((first|refine kL ?_|(refine ⟨fun hb=>?_,fun hb=>?_⟩<;>(try simp only [nrm] at hb)<;>(try (first|(exfalso;omega)|contradiction|exact kB hb)))|refine kA hbl ?_|refine kD hbl ?_|refine kW cfg_ok ?_|refine kC ?_|refine bdA ?_|refine bd2 ?_|refine bdR ?_|refine bdL ?_)<;>(conv=>whnf))|(refine And.intro ?_ ?_;rotate_left;(conv=>whnf);rotate_right))
         · rw [if_neg h9] at he
           conv=>whnf
           repeat' (first|exact trivial|((first|refine kL ?_|(refine ⟨fun hb=>?_,fun hb=>?_⟩<;>(try simp only [nrm] at hb)<;>(try (first|(exfalso;omega)|contradiction|exact kB hb)))|refine kA hbl ?_|refine kD hbl ?_|refine kW cfg_ok ?_|refine kC ?_|refine bdA ?_|refine bd2 ?_|refine bdR ?_|refine bdL ?_)<;>(conv=>whnf))|(refine And.intro ?_ ?_;rotate_left;(conv=>whnf);rotate_right))
           refine .to (k + 1,b) ⟨by first|omega|(dsimp only;omega),hb1,he⟩ (by first|omega|(dsimp only;omega)) ?_
           conv=>whnf
           repeat' (first|exact trivial|((first|refine kL ?_|(refine ⟨fun hb=>?_,fun hb=>?_⟩<;>(try simp only [nrm] at hb)<;>(try (first|(exfalso;omega)|contradiction|exact kB hb)))|refine kW cfg_ok ?_|refine kC ?_|refine bdA ?_|refine bd2 ?_|refine bdR ?_|refine bdL ?_)<;>(conv=>whnf))|(refine And.intro ?_ ?_;rotate_left;(conv=>whnf);rotate_right))
   · obtain rfl : k = 64:=by omega
     rw [List.drop_of_length_le (by omega)] at he
     simp only [rightGo] at he
     conv=>whnf
     repeat' (first|exact trivial|((first|refine kL ?_|(refine ⟨fun hb=>?_,fun hb=>?_⟩<;>(try simp only [nrm] at hb)<;>(try (first|(exfalso;omega)|contradiction|exact kB hb)))|refine kW cfg_ok ?_|refine kC ?_|refine bdA ?_|refine bd2 ?_|refine bdR ?_|refine bdL ?_)<;>(conv=>whnf))|(refine And.intro ?_ ?_;rotate_left;(conv=>whnf);rotate_right))
     refine Runs.loopS cfg_ok (σ:=Nat) [1,3,5] (fun j=>[.ptr 2 0,i64 b,i64 j]) (fun _=>[(2,.box (chunkC c))]) (fun j=>j ≤ c.heaps.length ∧ (c.heaps.drop j).any badHeap = c.heaps.any badHeap) (fun j=>c.heaps.length - j) 0 ⟨by omega,rfl⟩ ?_ ?_
     · conv=>whnf
       repeat' (first|exact trivial|((first|refine kL ?_|(refine ⟨fun hb=>?_,fun hb=>?_⟩<;>(try simp only [nrm] at hb)<;>(try (first|(exfalso;omega)|contradiction|exact kB hb)))|refine kW cfg_ok ?_|refine kC ?_|refine bdA ?_|refine bd2 ?_|refine bdR ?_|refine bdL ?_)<;>(conv=>whnf))|(refine And.intro ?_ ?_;rotate_left;(conv=>whnf);rotate_right))
     · rintro j ⟨hj,hany⟩
       by_cases hjl : j < c.heaps.length
       · rw [drop_elt (t:=.heap) hjl,List.any_cons] at hany
         have hok:=hc.heaps _ (elt_mem (t:=.heap) hjl)
         have hsl:=r11slot_api (elt .heap c.heaps j).slot hok
         have hE : (elt .heap c.heaps (j : Int).toNat).cell = (elt .heap c.heaps j).cell:=rfl
         have hbd : badHeap (elt .heap c.heaps j) = (!(decide (0 ≤ (elt .heap c.heaps j).cell) && decide ((elt .heap c.heaps j).cell < 64)) || !someB (elt .heap c.heaps j).slot):=rfl
         cases hS : someB (elt .heap c.heaps j).slot
         all_goals
           rw [hS] at hsl hbd
           conv=>whnf
           repeat' (first|exact trivial|((first|refine kL ?_|(refine ⟨fun hb=>?_,fun hb=>?_⟩<;>(try simp only [nrm] at hb)<;>(try (first|(exfalso;omega)|contradiction|exact kB hb)))|refine kA hsl ?_|refine kD hsl ?_|refine kW cfg_ok ?_|refine kC ?_|refine bdA ?_|refine bd2 ?_|refine bdR ?_|refine bdL ?_)<;>(conv=>whnf))|(refine And.intro ?_ ?_;rotate_left;(conv=>whnf);rotate_right))
         all_goals first
           | (rw [rightB_heap (by rw [← hany,hbd];simp;omega)];done)
           | (rw [rightB_heap (by rw [← hany,hbd];simp)];done)
           | (refine .to (j + 1) ⟨hjl,by rw [← hany,hbd];simp;omega⟩ (by omega) ?_;(conv=>whnf))
           | trace_state
         repeat' (first|exact trivial|((first|refine kL ?_|(refine ⟨fun hb=>?_,fun hb=>?_⟩<;>(try simp only [nrm] at hb)<;>(try (first|(exfalso;omega)|contradiction|exact kB hb)))|refine kW cfg_ok ?_|refine kC ?_|refine bdA ?_|refine bd2 ?_|refine bdR ?_|refine bdL ?_)<;>(conv=>whnf))|(refine And.intro ?_ ?_;rotate_left;(conv=>whnf);rotate_right))
       · obtain rfl : j = c.heaps.length:=by omega
         rw [List.drop_length] at hany
         have e:=rightB_boxes hH he.symm hany.symm
         rw [List.length_drop] at e
         rw [e]
         conv=>whnf
         repeat' (first|exact trivial|((first|refine kL ?_|(refine ⟨fun hb=>?_,fun hb=>?_⟩<;>(try simp only [nrm] at hb)<;>(try (first|(exfalso;omega)|contradiction|exact kB hb)))|refine kW cfg_ok ?_|refine kC ?_|refine bdA ?_|refine bd2 ?_|refine bdR ?_|refine bdL ?_)<;>(conv=>whnf))|(refine And.intro ?_ ?_;rotate_left;(conv=>whnf);rotate_right))
         all_goals (refine congrArg Value.bool ?_;rw [Bool.eq_iff_iff];simp;omega)
theorem r11copied_ev (c : Chunk) (hc : FitC c) : Ev1 Tryz.prog 21 [chunkV c] [] (.agg (chunkO c 390001 390003 390005)) (chunkR c 390001 390003 390005):=by
 have h1:=hc.cells
 have h2:=hc.heaps
 have h3:=hc.boxes
 refine Ev1.of_fin cfg_ok Tryz.func21 rfl (nt:=45) rfl rfl rfl ?_
 conv=>whnf
 repeat' (first|exact trivial|((first|refine kL ?_|(refine ⟨fun hb=>?_,fun hb=>?_⟩<;>(try simp only [nrm] at hb)<;>(try (first|(exfalso;omega)|contradiction|exact kB hb)))|refine kW cfg_ok ?_|refine kC ?_|refine bdA ?_|refine bd2 ?_|refine bdR ?_|refine bdL ?_)<;>(conv=>whnf))|(refine And.intro ?_ ?_;rotate_left;(conv=>whnf);rotate_right))
 all_goals first|(simp;done)|skip
 refine Runs.loopS cfg_ok (σ:=Nat) [1,2,3,4] (fun k=>[.ptr 200002 0,.ptr 200004 0,.ptr 200006 0,i64 k]) (fun k=>[(200002,.box (chunkC c)),(200004,.box (chunkC ⟨0,0,[],[],[]⟩)),(200006,.box [i64 c.x,i64 c.y,.own .u8 200025 0 c.cells.length none,.own .heap 200033 0 c.heaps.length none,.own .box 350001 0 k none]),(200025,.row .u8 c.cells),(200033,.row .heap c.heaps),(350001,.row .box (c.boxes.take k))]) (fun k=>k ≤ c.boxes.length) (fun k=>c.boxes.length - k) 0 (by omega) ?_ ?_
 · conv=>whnf
   repeat' (first|exact trivial|((first|refine kL ?_|(refine ⟨fun hb=>?_,fun hb=>?_⟩<;>(try simp only [nrm] at hb)<;>(try (first|(exfalso;omega)|contradiction|exact kB hb)))|refine kW cfg_ok ?_|refine kC ?_|refine bdA ?_|refine bd2 ?_|refine bdR ?_|refine bdL ?_)<;>(conv=>whnf))|(refine And.intro ?_ ?_;rotate_left;(conv=>whnf);rotate_right))
   all_goals first|(simp;done)|trace_state
 · intro k hk
   by_cases hlt : k < c.boxes.length
   · have hbk:=hc.bags _ (elt_mem (t:=.box) hlt)
     have hnx:=take_next (tt:=.box) hlt
     conv=>whnf
     repeat' (first|exact trivial|((first|refine kL ?_|(refine ⟨fun hb=>?_,fun hb=>?_⟩<;>(try simp only [nrm] at hb)<;>(try (first|(exfalso;omega)|contradiction|exact kB hb)))|refine kW cfg_ok ?_|refine kC ?_|refine bdA ?_|refine bd2 ?_|refine bdR ?_|refine bdL ?_)<;>(conv=>whnf))|(refine And.intro ?_ ?_;rotate_left;(conv=>whnf);rotate_right))
     refine .to (k + 1) hlt (by omega) ?_
     conv=>whnf
     repeat' (first|exact trivial|((first|refine kL ?_|(refine ⟨fun hb=>?_,fun hb=>?_⟩<;>(try simp only [nrm] at hb)<;>(try (first|(exfalso;omega)|contradiction|exact kB hb)))|refine kW cfg_ok ?_|refine kC ?_|refine bdA ?_|refine bd2 ?_|refine bdR ?_|refine bdL ?_)<;>(conv=>whnf))|(refine And.intro ?_ ?_;rotate_left;(conv=>whnf);rotate_right))
     all_goals first|(simp;done)|(simp;exact app1 hnx hlt (takekk _ _) rfl rfl)|trace_state
   · obtain rfl : k = c.boxes.length:=by omega
     conv=>whnf
     repeat' (first|exact trivial|((first|refine kL ?_|(refine ⟨fun hb=>?_,fun hb=>?_⟩<;>(try simp only [nrm] at hb)<;>(try (first|(exfalso;omega)|contradiction|exact kB hb)))|refine kW cfg_ok ?_|refine kC ?_|refine bdA ?_|refine bd2 ?_|refine bdR ?_|refine bdL ?_)<;>(conv=>whnf))|(refine And.intro ?_ ?_;rotate_left;(conv=>whnf);rotate_right))
     all_goals first|(simp;done)|trace_state
open Go Go.RowKit Eng
open Go Go.RowKit Eng
theorem fd30 (x : Int) : x.fdiv (2 ^ min (Int.toNat 30) IntKind.u64.bits) = x / 1073741824:=Int.fdiv_eq_ediv_of_nonneg x (by decide)
theorem fd27 (x : Int) : x.fdiv (2 ^ min (Int.toNat 27) IntKind.u64.bits) = x / 134217728:=Int.fdiv_eq_ediv_of_nonneg x (by decide)
theorem fd31 (x : Int) : x.fdiv (2 ^ min (Int.toNat 31) IntKind.u64.bits) = x / 2147483648:=Int.fdiv_eq_ediv_of_nonneg x (by decide)
theorem w64_bd (z : Int) : 0 ≤ w64 z ∧ w64 z ≤ 18446744073709551615:=by
 unfold w64
 simp only [IntKind.wrap,IntKind.bits,IntKind.signed]
 simp
 omega
theorem qdL {a b : Int} {c d : Prop} (ha : 0 ≤ a) (k : c) (hb : 0 < b:=by omega) : (0 ≤ a ∧ 0 < b ∧ c) ∨ d:=.inl ⟨ha,hb,k⟩
theorem r12mix_api (seed n : Int) : Api Tryz.prog 105 [.lit (.int .u64 seed),.lit (.int .u64 n)] (.lit (.int .u64 (mixI seed n))):=by
 have h3 : mixI seed n = bitR .xor .u64 (mix2 seed n) (mix2 seed n / 2147483648):=by unfold mixI;rw [fd31]
 have h2 : mix2 seed n = IntKind.u64.wrap (bitR .xor .u64 (mix1 seed n) (mix1 seed n / 134217728) * 10723151780598845931):=by unfold mix2 turnM w64;rw [fd27]
 have h1 : mix1 seed n = IntKind.u64.wrap (bitR .xor .u64 (mix0 seed n) (mix0 seed n / 1073741824) * 13787848793156543929):=by unfold mix1 turnM w64;rw [fd30]
 have h0 : mix0 seed n = IntKind.u64.wrap (seed + IntKind.u64.wrap (IntKind.u64.wrap (n + 1) * 11400714819323198485)):=by unfold mix0 w64;rfl
 have b0 : 0 ≤ mix0 seed n ∧ mix0 seed n ≤ 18446744073709551615:=w64_bd _
 have b1 : 0 ≤ mix1 seed n ∧ mix1 seed n ≤ 18446744073709551615:=w64_bd _
 have b2 : 0 ≤ mix2 seed n ∧ mix2 seed n ≤ 18446744073709551615:=w64_bd _
 generalize mixI seed n = x3 at *
 generalize mix2 seed n = x2 at *
 generalize mix1 seed n = x1 at *
 generalize mix0 seed n = x0 at *
 refine Api.of_fin cfg_ok Tryz.func105 rfl (nt:=23) rfl rfl ?_
 ((try with_reducible refine evCut fun N hN hE hT=>?_);(conv=>whnf))
 repeat' (first|exact trivial|((first|((first|refine hT _ _ ?_|refine hE _ _ _ ?_|refine hN _ _ ?_);clear hN hE hT)|refine kL ?_|(refine ⟨fun hb=>?_,fun hb=>?_⟩<;>(try simp only [nrm] at hb)<;>(try (first|(exfalso;omega)|contradiction|exact kB hb)))|(refine qdL b0.1 ?_)|(refine qdL b1.1 ?_)|(refine qdL b2.1 ?_)|(simp only [← h0])|(simp only [← h1])|(simp only [← h2])|(refine .inr ?_)|refine kW cfg_ok ?_|refine kC ?_|refine bdA ?_|refine bd2 ?_|refine bdR ?_|refine bdL ?_)<;>((try with_reducible refine evCut fun N hN hE hT=>?_);(conv=>whnf)))|(refine And.intro ?_ ?_;rotate_left;(conv=>whnf);rotate_right))
 all_goals first|rfl|exact congrArg (Value.int .u64) h3.symm|trace_state
theorem gl_suc (seed x y : Int) (k : Nat) : gl seed x y (k + 1) = gl seed x y k ++ [cellI seed (x * 8 + (k : Int) % 8) (y * 8 + (k : Int) / 8)]:=by
 unfold gl
 rw [List.range_succ,List.map_append,List.map_singleton]
 rfl
def cellM (m h y : Int) : Int:=
 let under:=y - (40 + h % 32)
 if under = -1 ∧ m % 11 = 0 then 4
 else if under = -1 ∧ m % 11 = 1 then 3
 else if under < 0 then 0
 else if under ≤ 2 then 1
 else if m % 7 = 0 then 7
 else 2
theorem cellI_M (seed x y : Int) : cellI seed x y = cellM (mixI seed (y * 128 + x)) (mixI seed (100000 + x / 8)) y:=rfl
theorem r12cell_api (seed x y : Int) (hx : 0 ≤ x) (hx2 : x ≤ 127) (hy : 0 ≤ y) (hy2 : y ≤ 127) : Api Tryz.prog 94 [.lit (.int .u64 seed),i64 x,i64 y] (.lit (.int .u8 (cellI seed x y))):=by
 have hm:=mixI_bd seed (y * 128 + x)
 have hm2:=mixI_bd seed (100000 + x / 8)
 have c1:=r12mix_api seed (y * 128 + x)
 have c2:=r12mix_api seed (100000 + x / 8)
 rw [cellI_M]
 generalize mixI seed (y * 128 + x) = M at *
 generalize mixI seed (100000 + x / 8) = H at *
 refine Api.of_fin cfg_ok Tryz.func94 rfl (nt:=64) rfl rfl ?_
 ((try with_reducible refine evCut fun N hN hE hT=>?_);(conv=>whnf))
 repeat' (first|exact trivial|((first|((first|refine hT _ _ ?_|refine hE _ _ _ ?_|refine hN _ _ ?_);clear hN hE hT)|refine kL ?_|(refine ⟨fun hb=>?_,fun hb=>?_⟩<;>(try simp only [nrm] at hb)<;>(try (first|(exfalso;omega)|contradiction|exact kB hb)))|refine kA c1 ?_|refine kD c1 ?_|refine kA c2 ?_|refine kD c2 ?_|refine kW cfg_ok ?_|refine kC ?_|refine bdA ?_|refine bd2 ?_|refine bdR ?_|refine bdL ?_)<;>((try with_reducible refine evCut fun N hN hE hT=>?_);(conv=>whnf)))|(refine And.intro ?_ ?_;rotate_left;(conv=>whnf);rotate_right))
 all_goals first
   | omega
   | (refine congrArg (Value.int .u8) ?_;unfold cellM;simp only [];(repeat' split)<;>omega)
   | trace_state
theorem r12chunk_api (seed x y : Int) (hx : 0 ≤ x) (hx2 : x ≤ 15) (hy : 0 ≤ y) (hy2 : y ≤ 15) : Api Tryz.prog 61 [.lit (.int .u64 seed),i64 x,i64 y] (chunkV (genC seed x y)):=by
 refine Api.of_fin cfg_ok Tryz.func61 rfl (nt:=46) rfl rfl ?_
 conv=>whnf
 repeat' (first|exact trivial|((first|refine kL ?_|(refine ⟨fun hb=>?_,fun hb=>?_⟩<;>(try simp only [nrm] at hb)<;>(try (first|(exfalso;omega)|contradiction|exact kB hb)))|refine kW cfg_ok ?_|refine kC ?_|refine bdA ?_|refine bd2 ?_|refine bdR ?_|refine bdL ?_)<;>(conv=>whnf))|(refine And.intro ?_ ?_;rotate_left;(conv=>whnf);rotate_right))
 refine Runs.loopS cfg_ok (σ:=Nat) [0,1,2,6,7,8] (fun k=>[.lit (.int .u64 seed),i64 x,i64 y,.ptr 12 0,.ptr 14 0,i64 k])
   (fun k=>[(12,.box (chunkC ⟨0,0,[],[],[]⟩)),(14,.box [i64 x,i64 y,.own .u8 150101 0 k none,.lit (.slice none 0 0),.lit (.slice none 0 0)]),(150101,.row .u8 (gl seed x y k))]) (fun k=>k ≤ 64) (fun k=>64 - k) 0 (by omega) ?_ ?_
 · conv=>whnf
   repeat' (first|exact trivial|((first|refine kL ?_|(refine ⟨fun hb=>?_,fun hb=>?_⟩<;>(try simp only [nrm] at hb)<;>(try (first|(exfalso;omega)|contradiction|exact kB hb)))|refine kW cfg_ok ?_|refine kC ?_|refine bdA ?_|refine bd2 ?_|refine bdR ?_|refine bdL ?_)<;>(conv=>whnf))|(refine And.intro ?_ ?_;rotate_left;(conv=>whnf);rotate_right))
   all_goals first|rfl|trace_state
 · intro k hk
   by_cases hlt : k < 64
   · have hc:=r12cell_api seed (x * 8 + (k : Int) % 8) (y * 8 + (k : Int) / 8) (by omega) (by omega) (by omega) (by omega)
     have hl:=gl_len seed x y k
     have hn:=gl_suc seed x y k
     generalize gl seed x y k = L at *
     conv=>whnf
     repeat' (first|exact trivial|((first|refine kL ?_|(refine ⟨fun hb=>?_,fun hb=>?_⟩<;>(try simp only [nrm] at hb)<;>(try (first|(exfalso;omega)|contradiction|exact kB hb)))|refine kA hc ?_|refine kD hc ?_|refine kW cfg_ok ?_|refine kC ?_|refine bdA ?_|refine bd2 ?_|refine bdR ?_|refine bdL ?_)<;>(conv=>whnf))|(refine And.intro ?_ ?_;rotate_left;(conv=>whnf);rotate_right))
     refine .to (k + 1) hlt (by omega) ?_
     rw [hn]
     conv=>whnf
     repeat' (first|exact trivial|((first|refine kL ?_|(refine ⟨fun hb=>?_,fun hb=>?_⟩<;>(try simp only [nrm] at hb)<;>(try (first|(exfalso;omega)|contradiction|exact kB hb)))|refine kW cfg_ok ?_|refine kC ?_|refine bdA ?_|refine bd2 ?_|refine bdR ?_|refine bdL ?_)<;>(conv=>whnf))|(refine And.intro ?_ ?_;rotate_left;(conv=>whnf);rotate_right))
     all_goals first|rfl|(simp [hl];done)|(rw [List.take_of_length_le (show L.length ≤ k by omega)];exact (List.take_of_length_le (by simp;omega)).trans rfl)|trace_state
   · obtain rfl : k = 64:=by omega
     have hl:=gl_len seed x y 64
     have hg : genC seed x y = ⟨x,y,gl seed x y 64,[],[]⟩:=rfl
     rw [hg]
     generalize gl seed x y 64 = L at *
     conv=>whnf
     repeat' (first|exact trivial|((first|refine kL ?_|(refine ⟨fun hb=>?_,fun hb=>?_⟩<;>(try simp only [nrm] at hb)<;>(try (first|(exfalso;omega)|contradiction|exact kB hb)))|refine kW cfg_ok ?_|refine kC ?_|refine bdA ?_|refine bd2 ?_|refine bdR ?_|refine bdL ?_)<;>(conv=>whnf))|(refine And.intro ?_ ?_;rotate_left;(conv=>whnf);rotate_right))
     all_goals first|rfl|(simp [hl];done)|(rw [List.drop_zero];exact List.take_of_length_le (by omega))|trace_state
open Go Go.RowKit Eng
abbrev nilS : AV:=.lit (.slice none 0 0)
theorem rplayer_api (p : Player) (hp : OkP p) : Api Tryz.prog 59 [playerV p] (bol (soundB p)):=by
 have h1:=refRight_api p.bag 8 (by have:=hp.nb;unfold big;omega) hp.bag
 have h2:=refRight_api p.offer 8 (by have:=hp.no;unfold big;omega) hp.offer
 have h3:=hp.no
 change Api _ _ _ (bol (bag8 p.bag)) at h1
 change Api _ _ _ (bol (bag8 p.offer)) at h2
 unfold soundB
 generalize bag8 p.bag = b1 at *
 generalize bag8 p.offer = b2 at *
 cases b1<;>cases b2<;>cases hag : p.agrees
 all_goals
   refine Api.of_fin cfg_ok Tryz.func59 rfl (nt:=48) rfl rfl ?_
   conv=>whnf
   repeat' (first|exact trivial|((first|refine kL ?_|(refine ⟨fun hb=>?_,fun hb=>?_⟩<;>(try simp only [nrm] at hb)<;>(try (first|(exfalso;omega)|contradiction|exact kB hb)))|refine kA h1 ?_|refine kD h1 ?_|refine kA h2 ?_|refine kD h2 ?_|refine kW cfg_ok ?_|refine kC ?_|refine bdA ?_|refine bd2 ?_|refine bdR ?_|refine bdL ?_)<;>(conv=>whnf))|(refine And.intro ?_ ?_;rotate_left;(conv=>whnf);rotate_right))
   all_goals first
     | (refine congrArg Value.bool ?_;simp;done)
     | (refine congrArg Value.bool ?_;simp;omega)
     | (refine congrArg Value.bool ?_;simp [*];done)
     | (refine congrArg Value.bool ?_;simp [*];omega)
     | (refine congrArg Value.bool ?_;simp_all;done)
     | (refine congrArg Value.bool ?_;simp_all;omega)
     | (simp_all;done)
open Go Go.RowKit Eng
abbrev zeroW13 : List AV:=[i64 0,.lit (.int .u64 0),i64 0,.lit (.slice none 0 0),.lit (.slice none 0 0)]
theorem r13copied_api (w : Wld) (hw : OkW w) : Api Tryz.prog 7 [wldV w] (wldV w):=by
 have h1:=hw.nc
 have h2:=hw.np
 refine Api.of_fin cfg_ok Tryz.func7 rfl (nt:=60) rfl rfl ?_
 ((try with_reducible refine evCut fun N hN hE hT=>?_);(conv=>whnf))
 repeat' (first|exact trivial|((first|((first|refine hT _ _ ?_|refine hE _ _ _ ?_|refine hN _ _ ?_);clear hN hE hT)|refine kL ?_|(refine ⟨fun hb=>?_,fun hb=>?_⟩<;>(try simp only [nrm] at hb)<;>(try (first|(exfalso;omega)|contradiction|exact kB hb)))|refine kW cfg_ok ?_|refine kC ?_|refine bdA ?_|refine bd2 ?_|refine bdR ?_|refine bdL ?_)<;>((try with_reducible refine evCut fun N hN hE hT=>?_);(conv=>whnf)))|(refine And.intro ?_ ?_;rotate_left;(conv=>whnf);rotate_right))
 refine Runs.loopS cfg_ok (σ:=Nat) [1,2,3,4] (fun k=>[.ptr 2 0,.ptr 4 0,.ptr 6 0,i64 k]) (fun k=>[(2,.box (wldC w)),(4,.box zeroW13),(6,.box [i64 w.size,.lit (.int .u64 w.seed),i64 w.tick,.own .chunk 150101 0 k none,.lit (.slice none 0 0)]),(150101,.row .chunk (w.chunks.take k))]) (fun k=>k ≤ w.chunks.length) (fun k=>w.chunks.length - k) 0 (by omega) ?_ ?_
 · conv=>whnf
   repeat' (first|exact trivial|((first|((first|refine hT _ _ ?_|refine hE _ _ _ ?_|refine hN _ _ ?_);clear hN hE hT)|refine kL ?_|(refine ⟨fun hb=>?_,fun hb=>?_⟩<;>(try simp only [nrm] at hb)<;>(try (first|(exfalso;omega)|contradiction|exact kB hb)))|refine kW cfg_ok ?_|refine kC ?_|refine bdA ?_|refine bd2 ?_|refine bdR ?_|refine bdL ?_)<;>((try with_reducible refine evCut fun N hN hE hT=>?_);(conv=>whnf)))|(refine And.intro ?_ ?_;rotate_left;(conv=>whnf);rotate_right))
   all_goals first|rfl|(simp;done)|trace_state
 · intro k hk
   by_cases hlt : k < w.chunks.length
   · have hf:=hw.fit _ (elt_mem (t:=.chunk) hlt)
     have hcp:=r11copied_ev (elt .chunk w.chunks k) hf
     have hnx:=take_next (tt:=.chunk) hlt
     conv=>whnf
     repeat' (first|exact trivial|((first|((first|refine hT _ _ ?_|refine hE _ _ _ ?_|refine hN _ _ ?_);clear hN hE hT)|refine kL ?_|(refine ⟨fun hb=>?_,fun hb=>?_⟩<;>(try simp only [nrm] at hb)<;>(try (first|(exfalso;omega)|contradiction|exact kB hb)))|refine kE hcp [(390001,150001),(390003,150003),(390005,150005)] rfl ?_|refine kF hcp [(390001,150001),(390003,150003),(390005,150005)] rfl ?_|refine kW cfg_ok ?_|refine kC ?_|refine bdA ?_|refine bd2 ?_|refine bdR ?_|refine bdL ?_)<;>((try with_reducible refine evCut fun N hN hE hT=>?_);(conv=>whnf)))|(refine And.intro ?_ ?_;rotate_left;(conv=>whnf);rotate_right))
     refine .to (k + 1) hlt (by omega) ?_
     conv=>whnf
     repeat' (first|exact trivial|((first|((first|refine hT _ _ ?_|refine hE _ _ _ ?_|refine hN _ _ ?_);clear hN hE hT)|refine kL ?_|(refine ⟨fun hb=>?_,fun hb=>?_⟩<;>(try simp only [nrm] at hb)<;>(try (first|(exfalso;omega)|contradiction|exact kB hb)))|refine kW cfg_ok ?_|refine kC ?_|refine bdA ?_|refine bd2 ?_|refine bdR ?_|refine bdL ?_)<;>((try with_reducible refine evCut fun N hN hE hT=>?_);(conv=>whnf)))|(refine And.intro ?_ ?_;rotate_left;(conv=>whnf);rotate_right))
     all_goals first|rfl|(simp;done)|(simp;exact app1 hnx hlt (takekk _ _) rfl rfl)|trace_state
   · obtain rfl : k = w.chunks.length:=by omega
     rw [List.take_length]
     conv=>whnf
     repeat' (first|exact trivial|((first|((first|refine hT _ _ ?_|refine hE _ _ _ ?_|refine hN _ _ ?_);clear hN hE hT)|refine kL ?_|(refine ⟨fun hb=>?_,fun hb=>?_⟩<;>(try simp only [nrm] at hb)<;>(try (first|(exfalso;omega)|contradiction|exact kB hb)))|refine kW cfg_ok ?_|refine kC ?_|refine bdA ?_|refine bd2 ?_|refine bdR ?_|refine bdL ?_)<;>((try with_reducible refine evCut fun N hN hE hT=>?_);(conv=>whnf)))|(refine And.intro ?_ ?_;rotate_left;(conv=>whnf);rotate_right))
     refine Runs.loopS cfg_ok (σ:=Nat) [1,2,3,5] (fun k=>[.ptr 2 0,.ptr 4 0,.ptr 6 0,i64 k]) (fun k=>[(2,.box (wldC w)),(4,.box zeroW13),(6,.box [i64 w.size,.lit (.int .u64 w.seed),i64 w.tick,.own .chunk 150101 0 w.chunks.length none,.own .player 150103 0 k none]),(150101,.row .chunk w.chunks),(150103,.row .player (w.players.take k))]) (fun k=>k ≤ w.players.length) (fun k=>w.players.length - k) 0 (by omega) ?_ ?_
     · conv=>whnf
       repeat' (first|exact trivial|((first|((first|refine hT _ _ ?_|refine hE _ _ _ ?_|refine hN _ _ ?_);clear hN hE hT)|refine kL ?_|(refine ⟨fun hb=>?_,fun hb=>?_⟩<;>(try simp only [nrm] at hb)<;>(try (first|(exfalso;omega)|contradiction|exact kB hb)))|refine kW cfg_ok ?_|refine kC ?_|refine bdA ?_|refine bd2 ?_|refine bdR ?_|refine bdL ?_)<;>((try with_reducible refine evCut fun N hN hE hT=>?_);(conv=>whnf)))|(refine And.intro ?_ ?_;rotate_left;(conv=>whnf);rotate_right))
       all_goals first|rfl|(simp;done)|trace_state
     · intro k hk
       by_cases hlt : k < w.players.length
       · have hf:=hw.players _ (elt_mem (t:=.player) hlt)
         have n1:=hf.nb
         have n2:=hf.no
         have hnx:=take_next (tt:=.player) hlt
         conv=>whnf
         repeat' (first|exact trivial|((first|((first|refine hT _ _ ?_|refine hE _ _ _ ?_|refine hN _ _ ?_);clear hN hE hT)|refine kL ?_|(refine ⟨fun hb=>?_,fun hb=>?_⟩<;>(try simp only [nrm] at hb)<;>(try (first|(exfalso;omega)|contradiction|exact kB hb)))|refine kW cfg_ok ?_|refine kC ?_|refine bdA ?_|refine bd2 ?_|refine bdR ?_|refine bdL ?_)<;>((try with_reducible refine evCut fun N hN hE hT=>?_);(conv=>whnf)))|(refine And.intro ?_ ?_;rotate_left;(conv=>whnf);rotate_right))
         refine .to (k + 1) hlt (by omega) ?_
         conv=>whnf
         repeat' (first|exact trivial|((first|((first|refine hT _ _ ?_|refine hE _ _ _ ?_|refine hN _ _ ?_);clear hN hE hT)|refine kL ?_|(refine ⟨fun hb=>?_,fun hb=>?_⟩<;>(try simp only [nrm] at hb)<;>(try (first|(exfalso;omega)|contradiction|exact kB hb)))|refine kW cfg_ok ?_|refine kC ?_|refine bdA ?_|refine bd2 ?_|refine bdR ?_|refine bdL ?_)<;>((try with_reducible refine evCut fun N hN hE hT=>?_);(conv=>whnf)))|(refine And.intro ?_ ?_;rotate_left;(conv=>whnf);rotate_right))
         all_goals first|rfl|(simp;done)|(simp;exact app1 hnx hlt (takekk _ _) rfl rfl)|trace_state
       · obtain rfl : k = w.players.length:=by omega
         rw [List.take_length]
         conv=>whnf
         repeat' (first|exact trivial|((first|((first|refine hT _ _ ?_|refine hE _ _ _ ?_|refine hN _ _ ?_);clear hN hE hT)|refine kL ?_|(refine ⟨fun hb=>?_,fun hb=>?_⟩<;>(try simp only [nrm] at hb)<;>(try (first|(exfalso;omega)|contradiction|exact kB hb)))|refine kW cfg_ok ?_|refine kC ?_|refine bdA ?_|refine bd2 ?_|refine bdR ?_|refine bdL ?_)<;>((try with_reducible refine evCut fun N hN hE hT=>?_);(conv=>whnf)))|(refine And.intro ?_ ?_;rotate_left;(conv=>whnf);rotate_right))
         all_goals first|rfl|(simp;done)|trace_state
theorem withinS {s x y : Int} (hs : 1 ≤ s ∧ s ≤ 16) : withinW s x y = true ↔ 0 ≤ x ∧ 0 ≤ y ∧ x < 8 * s ∧ y < 8 * s:=by
 unfold withinW
 rw [wr8_eq (by omega) (by omega)]
 simp only [Bool.and_eq_true,decide_eq_true_eq]
 omega
theorem r13there_api (w : Wld) (p : Player) (hs : 1 ≤ w.size ∧ w.size ≤ 16) : Api Tryz.prog 60 [wldV w,playerV p] (bol (withinW w.size p.x p.y)):=by
 have h:=withinS (x:=p.x) (y:=p.y) hs
 cases hW : withinW w.size p.x p.y with
 | true =>
   obtain ⟨h1,h2,h3,h4⟩:=h.1 hW
   refine Api.of_fin cfg_ok Tryz.func60 rfl (nt:=27) rfl rfl ?_
   conv=>whnf
   repeat' (first|exact trivial|((first|refine kL ?_|(refine ⟨fun hb=>?_,fun hb=>?_⟩<;>(try simp only [nrm] at hb)<;>(try (first|(exfalso;omega)|contradiction|exact kB hb)))|refine kW cfg_ok ?_|refine kC ?_|refine bdA ?_|refine bd2 ?_|refine bdR ?_|refine bdL ?_)<;>(conv=>whnf))|(refine And.intro ?_ ?_;rotate_left;(conv=>whnf);rotate_right))
   all_goals (refine congrArg Value.bool ?_;simp;omega)
 | false =>
   have h5 : ¬ (0 ≤ p.x ∧ 0 ≤ p.y ∧ p.x < 8 * w.size ∧ p.y < 8 * w.size):=fun hx=>by rw [h.2 hx] at hW;cases hW
   refine Api.of_fin cfg_ok Tryz.func60 rfl (nt:=27) rfl rfl ?_
   conv=>whnf
   repeat' (first|exact trivial|((first|refine kL ?_|(refine ⟨fun hb=>?_,fun hb=>?_⟩<;>(try simp only [nrm] at hb)<;>(try (first|(exfalso;omega)|contradiction|exact kB hb)))|refine kW cfg_ok ?_|refine kC ?_|refine bdA ?_|refine bd2 ?_|refine bdR ?_|refine bdL ?_)<;>(conv=>whnf))|(refine And.intro ?_ ?_;rotate_left;(conv=>whnf);rotate_right))
   all_goals (refine congrArg Value.bool ?_;simp;omega)
theorem seenC_next {w : Wld} {k : Nat} (h : SeenC w k) (hlt : k < w.chunks.length) (h1 : rightB (elt .chunk w.chunks k) = true) (h2 : (elt .chunk w.chunks k).x < w.size) (h3 : (elt .chunk w.chunks k).y < w.size) (h4 : ∀ j,j + 1 = k → keyC (elt .chunk w.chunks j) < keyC (elt .chunk w.chunks k)) : SeenC w (k + 1):=by
 refine ⟨hlt,fun i hi=>?_,fun i hi=>?_⟩
 · rcases Nat.lt_succ_iff_lt_or_eq.1 hi with h'|rfl
   · exact h.right i h'
   · exact ⟨h1,h2,h3⟩
 · rcases Nat.lt_or_ge (i + 1) k with h'|h'
   · exact h.up i h'
   · have e : i + 1 = k:=by omega
     subst e
     exact h4 i rfl
theorem seenP_next {w : Wld} {k : Nat} (h : SeenP w k) (hlt : k < w.players.length) (h1 : soundB (elt .player w.players k) = true) (h2 : withinW w.size (elt .player w.players k).x (elt .player w.players k).y = true) (h4 : ∀ j,j + 1 = k → (elt .player w.players j).id < (elt .player w.players k).id) : SeenP w (k + 1):=by
 refine ⟨hlt,fun i hi=>?_,fun i hi=>?_⟩
 · rcases Nat.lt_succ_iff_lt_or_eq.1 hi with h'|rfl
   · exact h.right i h'
   · exact ⟨h1,h2⟩
 · rcases Nat.lt_or_ge (i + 1) k with h'|h'
   · exact h.up i h'
   · have e : i + 1 = k:=by omega
     subst e
     exact h4 i rfl
theorem r13right_api (w : Wld) (hw : OkW w) : Api Tryz.prog 26 [wldV w] (bol (rightW w)):=by
 have h1:=hw.nc
 have h2:=hw.np
 refine Api.of_fin cfg_ok Tryz.func26 rfl (nt:=137) rfl rfl ?_
 conv=>whnf
 repeat' (first|exact trivial|((first|refine kL ?_|(refine ⟨fun hb=>?_,fun hb=>?_⟩<;>(try simp only [nrm] at hb)<;>(try (first|(exfalso;omega)|contradiction|exact kB hb)))|refine kW cfg_ok ?_|refine kC ?_|refine bdA ?_|refine bd2 ?_|refine bdR ?_|refine bdL ?_)<;>(conv=>whnf))|(refine And.intro ?_ ?_;rotate_left;(conv=>whnf);rotate_right))
 all_goals (try (rw [wrong_of (p:=True) (fun h=>by have:=h.size;have:=h.few;omega)];done))
 have hH : headW w = true:=by simp only [headW,Bool.and_eq_true,decide_eq_true_eq];omega
 refine Runs.loopS cfg_ok (σ:=Nat) [1,3] (fun k=>[.ptr 2 0,i64 k]) (fun _=>[(2,.box (wldC w))]) (fun k=>SeenC w k) (fun k=>w.chunks.length - k) 0 ⟨by omega,by omega,by omega⟩ ?_ ?_
 · conv=>whnf
   repeat' (first|exact trivial|((first|refine kL ?_|(refine ⟨fun hb=>?_,fun hb=>?_⟩<;>(try simp only [nrm] at hb)<;>(try (first|(exfalso;omega)|contradiction|exact kB hb)))|refine kW cfg_ok ?_|refine kC ?_|refine bdA ?_|refine bd2 ?_|refine bdR ?_|refine bdL ?_)<;>(conv=>whnf))|(refine And.intro ?_ ?_;rotate_left;(conv=>whnf);rotate_right))
 · intro k hs
   have hk:=hs.le
   by_cases hlt : k < w.chunks.length
   · have hcr:=r11right_api _ (hw.chunks _ (elt_mem (t:=.chunk) hlt))
     cases hB : rightB (elt .chunk w.chunks k) with
     | false =>
       rw [wrong_of (p:=True) (fun h=>by have:=(h.chunkAt hlt).1;rw [hB] at this;cases this)]
       rw [hB] at hcr
       conv=>whnf
       repeat' (first|exact trivial|((first|refine kL ?_|(refine ⟨fun hb=>?_,fun hb=>?_⟩<;>(try simp only [nrm] at hb)<;>(try (first|(exfalso;omega)|contradiction|exact kB hb)))|refine kA hcr ?_|refine kD hcr ?_|refine kW cfg_ok ?_|refine kC ?_|refine bdA ?_|refine bd2 ?_|refine bdR ?_|refine bdL ?_)<;>(conv=>whnf))|(refine And.intro ?_ ?_;rotate_left;(conv=>whnf);rotate_right))
     | true =>
       rw [hB] at hcr
       have hp:=rightB_pos hB
       have q0 : (elt .chunk w.chunks (k : Int).toNat).x = (elt .chunk w.chunks k).x:=rfl
       have q1 : (elt .chunk w.chunks (k : Int).toNat).y = (elt .chunk w.chunks k).y:=rfl
       cases k with
       | zero =>
         conv=>whnf
         repeat' (first|exact trivial|((first|refine kL ?_|(refine ⟨fun hb=>?_,fun hb=>?_⟩<;>(try simp only [nrm] at hb)<;>(try (first|(exfalso;omega)|contradiction|exact kB hb)))|refine kA hcr ?_|refine kD hcr ?_|refine kW cfg_ok ?_|refine kC ?_|refine bdA ?_|refine bd2 ?_|refine bdR ?_|refine bdL ?_)<;>(conv=>whnf))|(refine And.intro ?_ ?_;rotate_left;(conv=>whnf);rotate_right))
         all_goals first
           | (rw [wrong_of (p:=True) (fun h=>by have:=h.chunkAt hlt;omega)];done)
           | (refine .to (0 + 1) (seenC_next hs hlt hB (by omega) (by omega) (by omega)) (by omega) ?_;(conv=>whnf))
           | trace_state
         repeat' (first|exact trivial|((first|refine kL ?_|(refine ⟨fun hb=>?_,fun hb=>?_⟩<;>(try simp only [nrm] at hb)<;>(try (first|(exfalso;omega)|contradiction|exact kB hb)))|refine kW cfg_ok ?_|refine kC ?_|refine bdA ?_|refine bd2 ?_|refine bdR ?_|refine bdL ?_)<;>(conv=>whnf))|(refine And.intro ?_ ?_;rotate_left;(conv=>whnf);rotate_right))
       | succ j =>
         have hpj:=rightB_pos (hs.right j (by omega)).1
         have e : (((j + 1 : Nat) : Int) - 1).toNat = j:=by omega
         have q2 : (elt .chunk w.chunks (((j + 1 : Nat) : Int) - 1).toNat).x = (elt .chunk w.chunks j).x:=by rw [e]
         have q3 : (elt .chunk w.chunks (((j + 1 : Nat) : Int) - 1).toNat).y = (elt .chunk w.chunks j).y:=by rw [e]
         conv=>whnf
         repeat' (first|exact trivial|((first|refine kL ?_|(refine ⟨fun hb=>?_,fun hb=>?_⟩<;>(try simp only [nrm] at hb)<;>(try (first|(exfalso;omega)|contradiction|exact kB hb)))|refine kA hcr ?_|refine kD hcr ?_|refine kW cfg_ok ?_|refine kC ?_|refine bdA ?_|refine bd2 ?_|refine bdR ?_|refine bdL ?_)<;>(conv=>whnf))|(refine And.intro ?_ ?_;rotate_left;(conv=>whnf);rotate_right))
         all_goals first
           | (rw [wrong_of (p:=True) (fun h=>by have:=h.chunkAt hlt;omega)];done)
           | (rw [wrong_of (p:=True) (fun h=>by have:=h.chunkUp hlt;unfold keyC at this;omega)];done)
           | (have hk2 : keyC (elt .chunk w.chunks j) < keyC (elt .chunk w.chunks (j + 1)):=(by unfold keyC;omega);refine .to (j + 1 + 1) (seenC_next hs hlt hB (by omega) (by omega) (fun i hi=>by rw [show i = j by omega];exact hk2)) (by omega) ?_;(conv=>whnf))
           | trace_state
         repeat' (first|exact trivial|((first|refine kL ?_|(refine ⟨fun hb=>?_,fun hb=>?_⟩<;>(try simp only [nrm] at hb)<;>(try (first|(exfalso;omega)|contradiction|exact kB hb)))|refine kW cfg_ok ?_|refine kC ?_|refine bdA ?_|refine bd2 ?_|refine bdR ?_|refine bdL ?_)<;>(conv=>whnf))|(refine And.intro ?_ ?_;rotate_left;(conv=>whnf);rotate_right))
   · obtain rfl : k = w.chunks.length:=by omega
     conv=>whnf
     repeat' (first|exact trivial|((first|refine kL ?_|(refine ⟨fun hb=>?_,fun hb=>?_⟩<;>(try simp only [nrm] at hb)<;>(try (first|(exfalso;omega)|contradiction|exact kB hb)))|refine kW cfg_ok ?_|refine kC ?_|refine bdA ?_|refine bd2 ?_|refine bdR ?_|refine bdL ?_)<;>(conv=>whnf))|(refine And.intro ?_ ?_;rotate_left;(conv=>whnf);rotate_right))
     have hsC:=hs
     clear hs
     have hsz : 1 ≤ w.size ∧ w.size ≤ 16:=by omega
     refine Runs.loopS cfg_ok (σ:=Nat) [1,5] (fun k=>[.ptr 2 0,i64 k]) (fun _=>[(2,.box (wldC w))]) (fun k=>SeenP w k) (fun k=>w.players.length - k) 0 ⟨by omega,by omega,by omega⟩ ?_ ?_
     · conv=>whnf
       repeat' (first|exact trivial|((first|refine kL ?_|(refine ⟨fun hb=>?_,fun hb=>?_⟩<;>(try simp only [nrm] at hb)<;>(try (first|(exfalso;omega)|contradiction|exact kB hb)))|refine kW cfg_ok ?_|refine kC ?_|refine bdA ?_|refine bd2 ?_|refine bdR ?_|refine bdL ?_)<;>(conv=>whnf))|(refine And.intro ?_ ?_;rotate_left;(conv=>whnf);rotate_right))
     · intro k hs
       have hk:=hs.le
       by_cases hlt : k < w.players.length
       · have hpr:=rplayer_api _ (hw.players _ (elt_mem (t:=.player) hlt))
         have hth:=r13there_api w (elt .player w.players k) hsz
         cases hB : soundB (elt .player w.players k) with
         | false =>
           rw [wrong_of (p:=True) (fun h=>by have:=(h.playerAt hlt).1;rw [hB] at this;cases this)]
           rw [hB] at hpr
           conv=>whnf
           repeat' (first|exact trivial|((first|refine kL ?_|(refine ⟨fun hb=>?_,fun hb=>?_⟩<;>(try simp only [nrm] at hb)<;>(try (first|(exfalso;omega)|contradiction|exact kB hb)))|refine kA hpr ?_|refine kD hpr ?_|refine kA hth ?_|refine kD hth ?_|refine kW cfg_ok ?_|refine kC ?_|refine bdA ?_|refine bd2 ?_|refine bdR ?_|refine bdL ?_)<;>(conv=>whnf))|(refine And.intro ?_ ?_;rotate_left;(conv=>whnf);rotate_right))
         | true =>
           rw [hB] at hpr
           cases hI : withinW w.size (elt .player w.players k).x (elt .player w.players k).y with
           | false =>
             rw [wrong_of (p:=True) (fun h=>by have:=(h.playerAt hlt).2;rw [hI] at this;cases this)]
             rw [hI] at hth
             conv=>whnf
             repeat' (first|exact trivial|((first|refine kL ?_|(refine ⟨fun hb=>?_,fun hb=>?_⟩<;>(try simp only [nrm] at hb)<;>(try (first|(exfalso;omega)|contradiction|exact kB hb)))|refine kA hpr ?_|refine kD hpr ?_|refine kA hth ?_|refine kD hth ?_|refine kW cfg_ok ?_|refine kC ?_|refine bdA ?_|refine bd2 ?_|refine bdR ?_|refine bdL ?_)<;>(conv=>whnf))|(refine And.intro ?_ ?_;rotate_left;(conv=>whnf);rotate_right))
           | true =>
             rw [hI] at hth
             have q0 : (elt .player w.players (k : Int).toNat).id = (elt .player w.players k).id:=rfl
             cases k with
             | zero =>
               conv=>whnf
               repeat' (first|exact trivial|((first|refine kL ?_|(refine ⟨fun hb=>?_,fun hb=>?_⟩<;>(try simp only [nrm] at hb)<;>(try (first|(exfalso;omega)|contradiction|exact kB hb)))|refine kA hpr ?_|refine kD hpr ?_|refine kA hth ?_|refine kD hth ?_|refine kW cfg_ok ?_|refine kC ?_|refine bdA ?_|refine bd2 ?_|refine bdR ?_|refine bdL ?_)<;>(conv=>whnf))|(refine And.intro ?_ ?_;rotate_left;(conv=>whnf);rotate_right))
               refine .to (0 + 1) (seenP_next hs hlt hB hI (by omega)) (by omega) ?_
               conv=>whnf
               repeat' (first|exact trivial|((first|refine kL ?_|(refine ⟨fun hb=>?_,fun hb=>?_⟩<;>(try simp only [nrm] at hb)<;>(try (first|(exfalso;omega)|contradiction|exact kB hb)))|refine kW cfg_ok ?_|refine kC ?_|refine bdA ?_|refine bd2 ?_|refine bdR ?_|refine bdL ?_)<;>(conv=>whnf))|(refine And.intro ?_ ?_;rotate_left;(conv=>whnf);rotate_right))
             | succ j =>
               have e : (((j + 1 : Nat) : Int) - 1).toNat = j:=by omega
               have q2 : (elt .player w.players (((j + 1 : Nat) : Int) - 1).toNat).id = (elt .player w.players j).id:=by rw [e]
               conv=>whnf
               repeat' (first|exact trivial|((first|refine kL ?_|(refine ⟨fun hb=>?_,fun hb=>?_⟩<;>(try simp only [nrm] at hb)<;>(try (first|(exfalso;omega)|contradiction|exact kB hb)))|refine kA hpr ?_|refine kD hpr ?_|refine kA hth ?_|refine kD hth ?_|refine kW cfg_ok ?_|refine kC ?_|refine bdA ?_|refine bd2 ?_|refine bdR ?_|refine bdL ?_)<;>(conv=>whnf))|(refine And.intro ?_ ?_;rotate_left;(conv=>whnf);rotate_right))
               all_goals first
                 | (rw [wrong_of (p:=True) (fun h=>by have:=h.playerUp hlt;omega)];done)
                 | (refine .to (j + 1 + 1) (seenP_next hs hlt hB hI (fun i hi=>by rw [show i = j by omega];omega)) (by omega) ?_;(conv=>whnf))
                 | trace_state
               repeat' (first|exact trivial|((first|refine kL ?_|(refine ⟨fun hb=>?_,fun hb=>?_⟩<;>(try simp only [nrm] at hb)<;>(try (first|(exfalso;omega)|contradiction|exact kB hb)))|refine kW cfg_ok ?_|refine kC ?_|refine bdA ?_|refine bd2 ?_|refine bdR ?_|refine bdL ?_)<;>(conv=>whnf))|(refine And.intro ?_ ?_;rotate_left;(conv=>whnf);rotate_right))
       · obtain rfl : k = w.players.length:=by omega
         rw [right_seen hH hsC hs]
         conv=>whnf
         repeat' (first|exact trivial|((first|refine kL ?_|(refine ⟨fun hb=>?_,fun hb=>?_⟩<;>(try simp only [nrm] at hb)<;>(try (first|(exfalso;omega)|contradiction|exact kB hb)))|refine kW cfg_ok ?_|refine kC ?_|refine bdA ?_|refine bd2 ?_|refine bdR ?_|refine bdL ?_)<;>(conv=>whnf))|(refine And.intro ?_ ?_;rotate_left;(conv=>whnf);rotate_right))
theorem r13player_api (w : Wld) (id : Int) (hw : OkW w) : Api Tryz.prog 27 [wldV w,i64 id] (.tup [playerV (playerW w id).1,bol (playerW w id).2]):=by
 have hrt:=r13right_api w hw
 have hcp:=r13copied_api w hw
 have hnp:=hw.np
 cases hR : rightW w with
 | false =>
   rw [hR] at hrt
   have hs : playerW w id = (zeroP,false):=by unfold playerW;rw [if_pos hR]
   rw [hs]
   refine Api.of_fin cfg_ok Tryz.func27 rfl (nt:=29) rfl rfl ?_
   conv=>whnf
   repeat' (first|exact trivial|((first|refine kL ?_|(refine ⟨fun hb=>?_,fun hb=>?_⟩<;>(try simp only [nrm] at hb)<;>(try (first|(exfalso;omega)|contradiction|exact kB hb)))|refine kA hrt ?_|refine kD hrt ?_|refine kW cfg_ok ?_|refine kC ?_|refine bdA ?_|refine bd2 ?_|refine bdR ?_|refine bdL ?_)<;>(conv=>whnf))|(refine And.intro ?_ ?_;rotate_left;(conv=>whnf);rotate_right))
   all_goals first|rfl|trace_state
 | true =>
   rw [hR] at hrt
   have hRW:=rightW_iff.1 hR
   have e : playerW w id = match getK pid w.players id with|some p=>(p,true)|none=>(zeroP,false):=by
     unfold playerW;rw [if_neg (by rw [hR];simp)];rfl
   rw [e]
   refine Api.of_fin cfg_ok Tryz.func27 rfl (nt:=29) rfl rfl ?_
   conv=>whnf
   repeat' (first|exact trivial|((first|refine kL ?_|(refine ⟨fun hb=>?_,fun hb=>?_⟩<;>(try simp only [nrm] at hb)<;>(try (first|(exfalso;omega)|contradiction|exact kB hb)))|refine kA hrt ?_|refine kD hrt ?_|refine kW cfg_ok ?_|refine kC ?_|refine bdA ?_|refine bd2 ?_|refine bdR ?_|refine bdL ?_)<;>(conv=>whnf))|(refine And.intro ?_ ?_;rotate_left;(conv=>whnf);rotate_right))
   refine Runs.loopS cfg_ok (σ:=Nat) [1,2,4,6] (fun i=>[i64 id,.ptr 4 0,.ptr 8 0,i64 i]) (fun _=>[(4,.box (wldC w)),(8,.box [i64 0,i64 0,i64 0,nilS,i64 0,nilS,bol false])]) (fun i=>i ≤ w.players.length ∧ ∀ k < i,¬ (elt .player w.players k).id = id) (fun i=>w.players.length - i) 0 ⟨by omega,by omega⟩ ?_ ?_
   · conv=>whnf
     repeat' (first|exact trivial|((first|refine kL ?_|(refine ⟨fun hb=>?_,fun hb=>?_⟩<;>(try simp only [nrm] at hb)<;>(try (first|(exfalso;omega)|contradiction|exact kB hb)))|refine kW cfg_ok ?_|refine kC ?_|refine bdA ?_|refine bd2 ?_|refine bdR ?_|refine bdL ?_)<;>(conv=>whnf))|(refine And.intro ?_ ?_;rotate_left;(conv=>whnf);rotate_right))
   · rintro i ⟨hi,hno⟩
     by_cases hlt : i < w.players.length
     · have hE : (elt .player w.players (i : Int).toNat).id = (elt .player w.players i).id:=rfl
       by_cases he : (elt .player w.players i).id = id
       · have hg:=getP_at hRW.rp hlt
         rw [he] at hg
         rw [hg]
         conv=>whnf
         repeat' (first|exact trivial|((first|refine kL ?_|(refine ⟨fun hb=>?_,fun hb=>?_⟩<;>(try simp only [nrm] at hb)<;>(try (first|(exfalso;omega)|contradiction|exact kB hb)))|refine kA hcp ?_|refine kD hcp ?_|refine kW cfg_ok ?_|refine kC ?_|refine bdA ?_|refine bd2 ?_|refine bdR ?_|refine bdL ?_)<;>(conv=>whnf))|(refine And.intro ?_ ?_;rotate_left;(conv=>whnf);rotate_right))
         all_goals first|rfl|omega|trace_state
       · conv=>whnf
         repeat' (first|exact trivial|((first|refine kL ?_|(refine ⟨fun hb=>?_,fun hb=>?_⟩<;>(try simp only [nrm] at hb)<;>(try (first|(exfalso;omega)|contradiction|exact kB hb)))|refine kW cfg_ok ?_|refine kC ?_|refine bdA ?_|refine bd2 ?_|refine bdR ?_|refine bdL ?_)<;>(conv=>whnf))|(refine And.intro ?_ ?_;rotate_left;(conv=>whnf);rotate_right))
         refine .to (i + 1) ⟨hlt,fun k hk=>?_⟩ (by omega) ?_
         · rcases Nat.lt_succ_iff_lt_or_eq.1 hk with h|rfl
           · exact hno k h
           · exact he
         conv=>whnf
         repeat' (first|exact trivial|((first|refine kL ?_|(refine ⟨fun hb=>?_,fun hb=>?_⟩<;>(try simp only [nrm] at hb)<;>(try (first|(exfalso;omega)|contradiction|exact kB hb)))|refine kW cfg_ok ?_|refine kC ?_|refine bdA ?_|refine bd2 ?_|refine bdR ?_|refine bdL ?_)<;>(conv=>whnf))|(refine And.intro ?_ ?_;rotate_left;(conv=>whnf);rotate_right))
     · obtain rfl : i = w.players.length:=by omega
       rw [getP_none hno]
       conv=>whnf
       repeat' (first|exact trivial|((first|refine kL ?_|(refine ⟨fun hb=>?_,fun hb=>?_⟩<;>(try simp only [nrm] at hb)<;>(try (first|(exfalso;omega)|contradiction|exact kB hb)))|refine kW cfg_ok ?_|refine kC ?_|refine bdA ?_|refine bd2 ?_|refine bdR ?_|refine bdL ?_)<;>(conv=>whnf))|(refine And.intro ?_ ?_;rotate_left;(conv=>whnf);rotate_right))
       all_goals first|rfl|trace_state
theorem r13chunk_api (w : Wld) (x y : Int) (hw : OkW w) : Api Tryz.prog 28 [wldV w,i64 x,i64 y] (.tup [chunkV (chunkW w x y).1,bol (chunkW w x y).2]):=by
 have hrt:=r13right_api w hw
 have hnc:=hw.nc
 cases hR : rightW w with
 | false =>
   rw [hR] at hrt
   rw [chunkW_out (.inl hR)]
   refine Api.of_fin cfg_ok Tryz.func28 rfl (nt:=66) rfl rfl ?_
   conv=>whnf
   repeat' (first|exact trivial|((first|refine kL ?_|(refine ⟨fun hb=>?_,fun hb=>?_⟩<;>(try simp only [nrm] at hb)<;>(try (first|(exfalso;omega)|contradiction|exact kB hb)))|refine kA hrt ?_|refine kD hrt ?_|refine kW cfg_ok ?_|refine kC ?_|refine bdA ?_|refine bd2 ?_|refine bdR ?_|refine bdL ?_)<;>(conv=>whnf))|(refine And.intro ?_ ?_;rotate_left;(conv=>whnf);rotate_right))
   all_goals first|rfl|trace_state
 | true =>
   rw [hR] at hrt
   by_cases hin : 0 ≤ x ∧ x < w.size ∧ 0 ≤ y ∧ y < w.size
   · have hRW:=rightW_iff.1 hR
     have hs:=hRW.size
     rw [chunkW_get hRW hin.1 hin.2.1 hin.2.2.1 hin.2.2.2]
     have hgn:=r12chunk_api w.seed x y hin.1 (by omega) hin.2.2.1 (by omega)
     refine Api.of_fin cfg_ok Tryz.func28 rfl (nt:=66) rfl rfl ?_
     conv=>whnf
     repeat' (first|exact trivial|((first|refine kL ?_|(refine ⟨fun hb=>?_,fun hb=>?_⟩<;>(try simp only [nrm] at hb)<;>(try (first|(exfalso;omega)|contradiction|exact kB hb)))|refine kA hrt ?_|refine kD hrt ?_|refine kW cfg_ok ?_|refine kC ?_|refine bdA ?_|refine bd2 ?_|refine bdR ?_|refine bdL ?_)<;>(conv=>whnf))|(refine And.intro ?_ ?_;rotate_left;(conv=>whnf);rotate_right))
     refine Runs.loopS cfg_ok (σ:=Nat) [1,2,3,6,8] (fun i=>[i64 x,i64 y,.ptr 6 0,.ptr 12 0,i64 i]) (fun _=>[(6,.box (wldC w)),(12,.box (chunkC ⟨0,0,[],[],[]⟩))]) (fun i=>i ≤ w.chunks.length ∧ ∀ k < i,¬ ((elt .chunk w.chunks k).x = x ∧ (elt .chunk w.chunks k).y = y)) (fun i=>w.chunks.length - i) 0 ⟨by omega,by omega⟩ ?_ ?_
     · conv=>whnf
       repeat' (first|exact trivial|((first|refine kL ?_|(refine ⟨fun hb=>?_,fun hb=>?_⟩<;>(try simp only [nrm] at hb)<;>(try (first|(exfalso;omega)|contradiction|exact kB hb)))|refine kW cfg_ok ?_|refine kC ?_|refine bdA ?_|refine bd2 ?_|refine bdR ?_|refine bdL ?_)<;>(conv=>whnf))|(refine And.intro ?_ ?_;rotate_left;(conv=>whnf);rotate_right))
       all_goals first|rfl|trace_state
     · rintro i ⟨hi,hno⟩
       by_cases hlt : i < w.chunks.length
       · have q0 : (elt .chunk w.chunks (i : Int).toNat).x = (elt .chunk w.chunks i).x:=rfl
         have q1 : (elt .chunk w.chunks (i : Int).toNat).y = (elt .chunk w.chunks i).y:=rfl
         by_cases he : (elt .chunk w.chunks i).x = x ∧ (elt .chunk w.chunks i).y = y
         · have hg:=getC_at hRW.rc hRW.xy hlt
           rw [he.1,he.2] at hg
           rw [hg]
           obtain ⟨he1,he2⟩:=he
           have hcp:=r11copied_ev (elt .chunk w.chunks i) (hw.fit _ (elt_mem (t:=.chunk) hlt))
           conv=>whnf
           repeat' (first|exact trivial|((first|refine kL ?_|(refine ⟨fun hb=>?_,fun hb=>?_⟩<;>(try simp only [nrm] at hb)<;>(try (first|(exfalso;omega)|contradiction|exact kB hb)))|refine kE hcp [(390001,150001),(390003,150003),(390005,150005)] rfl ?_|refine kF hcp [(390001,150001),(390003,150003),(390005,150005)] rfl ?_|refine kW cfg_ok ?_|refine kC ?_|refine bdA ?_|refine bd2 ?_|refine bdR ?_|refine bdL ?_)<;>(conv=>whnf))|(refine And.intro ?_ ?_;rotate_left;(conv=>whnf);rotate_right))
           all_goals first|rfl|(simp;done)|omega|trace_state
         · have he1 : (elt .chunk w.chunks i).x = x → ¬ (elt .chunk w.chunks i).y = y:=fun h1 h2=>he ⟨h1,h2⟩
           conv=>whnf
           repeat' (first|exact trivial|((first|refine kL ?_|(refine ⟨fun hb=>?_,fun hb=>?_⟩<;>(try simp only [nrm] at hb)<;>(try (first|(exfalso;omega)|contradiction|exact kB hb)))|refine kW cfg_ok ?_|refine kC ?_|refine bdA ?_|refine bd2 ?_|refine bdR ?_|refine bdL ?_)<;>(conv=>whnf))|(refine And.intro ?_ ?_;rotate_left;(conv=>whnf);rotate_right))
           all_goals
             refine .to (i + 1) ⟨hlt,fun k hk=>?_⟩ (by omega) ?_
             · rcases Nat.lt_succ_iff_lt_or_eq.1 hk with h|rfl
               · exact hno k h
               · exact he
             conv=>whnf
             repeat' (first|exact trivial|((first|refine kL ?_|(refine ⟨fun hb=>?_,fun hb=>?_⟩<;>(try simp only [nrm] at hb)<;>(try (first|(exfalso;omega)|contradiction|exact kB hb)))|refine kW cfg_ok ?_|refine kC ?_|refine bdA ?_|refine bd2 ?_|refine bdR ?_|refine bdL ?_)<;>(conv=>whnf))|(refine And.intro ?_ ?_;rotate_left;(conv=>whnf);rotate_right))
             all_goals first|rfl|trace_state
       · obtain rfl : i = w.chunks.length:=by omega
         rw [getC_none hRW.xy hin.1 (by omega) hno]
         conv=>whnf
         repeat' (first|exact trivial|((first|refine kL ?_|(refine ⟨fun hb=>?_,fun hb=>?_⟩<;>(try simp only [nrm] at hb)<;>(try (first|(exfalso;omega)|contradiction|exact kB hb)))|refine kA hgn ?_|refine kD hgn ?_|refine kW cfg_ok ?_|refine kC ?_|refine bdA ?_|refine bd2 ?_|refine bdR ?_|refine bdL ?_)<;>(conv=>whnf))|(refine And.intro ?_ ?_;rotate_left;(conv=>whnf);rotate_right))
         all_goals first|rfl|trace_state
   · rw [chunkW_out (.inr hin)]
     refine Api.of_fin cfg_ok Tryz.func28 rfl (nt:=66) rfl rfl ?_
     conv=>whnf
     repeat' (first|exact trivial|((first|refine kL ?_|(refine ⟨fun hb=>?_,fun hb=>?_⟩<;>(try simp only [nrm] at hb)<;>(try (first|(exfalso;omega)|contradiction|exact kB hb)))|refine kA hrt ?_|refine kD hrt ?_|refine kW cfg_ok ?_|refine kC ?_|refine bdA ?_|refine bd2 ?_|refine bdR ?_|refine bdL ?_)<;>(conv=>whnf))|(refine And.intro ?_ ?_;rotate_left;(conv=>whnf);rotate_right))
     all_goals first|rfl|omega|trace_state
end Go.Proofs.YtecbmeadcdchdaaGreat
