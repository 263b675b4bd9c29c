/- snap.Make. -/
import Derived.Test.YtaecchphjploaaaGreatGn
import Derived.Test.YtaecchphjploaaaGreatGm
import Derived.Test.YtaecchphjploaaaGreatGj
set_option linter.unusedSimpArgs false
set_option linter.unusedVariables false
set_option maxRecDepth 100000
set_option maxHeartbeats 16000000
namespace Go.Proofs.YtaecchphjploaaaGreat
open Go Go.RowKit Eng
theorem Aa (a b : Box) (ha : a.bag.length ≤ 9000000000000000000) : Api Tryz.prog 187 [.agg (cells .box a),.agg (cells .box b)] (bol (eqv a b)):=by
 have h1:=fj a.bag b.bag ha
 by_cases he : a.bag = b.bag
 ·rw [bu.2 he] at h1
  by_cases hc : a.cell = b.cell
  ·rw [bu.2 (sl hc he)]
   refine aF Tryz.func187 15 ?_
   exact fD0
  ·rw [bL.2 (fun e=>hc (by rw [e]))]
   refine aF Tryz.func187 15 ?_
   exact fD0
 ·rw [bL.2 he] at h1
  rw [bL.2 (fun e=>he (by rw [e]))]
  refine aF Tryz.func187 15 ?_
  exact fD0
theorem wa (a b : List (El .box)) (ha : a.length ≤ 9000000000000000000) (hw : ∀ x ∈ a,ub x) : Api Tryz.prog 165 [.vec .box a,.vec .box b,.lit (.func (.func 187) #[] #[])] (bol (eqv a b)):=by
 by_cases hl : a.length = b.length
 ·skip
  refine aF Tryz.func165 29 ?_
  conv=>whnf
  repeat' (first|exact trivial|((first|(refine ⟨fun hb=>?_,fun hb=>?_⟩<;>(try simp only [nrm] at hb)<;>try exact kZ hb)|refine kV ?_)<;>(conv=>whnf))|refine kY ?_ ?_)
  all_goals try omega
  refine aw.loopS aa (σ:=Nat) [1,2,15,16,17] (fun k=>[.vec .box b,.lit (.func (.func 187) #[] #[]),.vec .box a,i64 a.length,i64 k]) (fun _=>[]) (fun k=>k ≤ a.length ∧ ∀ i < k,elt .box a i = elt .box b i) (fun k=>a.length - k) 0 ⟨by omega,by omega⟩ ?_ ?_
  ·exact fD0
  ·rintro k ⟨hk,ht⟩
   by_cases hlt : k < a.length
   ·have hcl:=Aa (elt .box a k) (elt .box b k) (hw _ (ay (t:=.box) hlt))
    by_cases he : elt .box a k = elt .box b k
    ·rw [bu.2 he] at hcl
     conv=>whnf
     repeat' (first|exact trivial|((first|(refine ⟨fun hb=>?_,fun hb=>?_⟩<;>(try simp only [nrm] at hb)<;>try exact kZ hb)|refine kV ?_)<;>(conv=>whnf))|refine kY ?_ ?_)
     refine .to (k + 1) ⟨by omega,fun i hi=>?_⟩ (by omega) ?_
     ·by_cases hik : i = k
      ·rw [hik];exact he
      ·exact ht i (by omega)
     exact fD0
    ·rw [bL.2 he] at hcl
     conv=>whnf
     repeat' (first|exact trivial|((first|(refine ⟨fun hb=>?_,fun hb=>?_⟩<;>(try simp only [nrm] at hb)<;>try exact kZ hb)|refine kV ?_)<;>(conv=>whnf))|refine kY ?_ ?_)
     exact congrArg Value.bool (fO (tt:=.box) (k:=k) he)
   ·obtain rfl : k = a.length:=by omega
    conv=>whnf
    repeat' (first|exact trivial|((first|(refine ⟨fun hb=>?_,fun hb=>?_⟩<;>(try simp only [nrm] at hb)<;>try exact kZ hb)|refine kV ?_)<;>(conv=>whnf))|refine kY ?_ ?_)
    exact congrArg Value.bool (ig (tt:=.box) hl ht)
 ·skip
  refine aF Tryz.func165 29 ?_
  conv=>whnf
  repeat' (first|exact trivial|((first|(refine ⟨fun hb=>?_,fun hb=>?_⟩<;>(try simp only [nrm] at hb)<;>try exact kZ hb)|refine kV ?_)<;>(conv=>whnf))|refine kY ?_ ?_)
  all_goals first|omega|exact congrArg Value.bool (ic hl)
theorem rA {a b : List (El .u8)} {k : Nat} : co a b (k + 1) = if gF a b k = true then co a b k ++ [sy k] else co a b k:=by
 unfold co
 rw [List.range_succ,List.filter_append,List.map_append]
 by_cases h : gF a b k = true
 ·rw [if_pos h];simp [h]
 ·rw [if_neg h];simp [h]
theorem lD {a b : List (El .u8)} {k : Nat} : (co a b k).length ≤ k:=by
 unfold co
 rw [List.length_map]
 exact Nat.le_trans (List.length_filter_le _ _) (by rw [List.length_range];exact Nat.le_refl _)
theorem lF {t : Ty} {l : List (El t)} {e : El t} : List.take (l.length + (List.take 1 (List.drop 0 [e])).length) (List.take l.length l ++ List.take 1 (List.drop 0 [e])) = l ++ [e]:=by
 rw [show List.take 1 (List.drop 0 [e]) = [e] from rfl,List.take_length,List.take_of_length_le (by rw [List.length_append];simp)]
theorem Ab (a b : Chunk) (ha : OkC a) (hb9 : OkC b) (hl : b.cells.length ≤ a.cells.length) (h64 : b.cells.length ≤ 1000) : Api Tryz.prog 161 [bz a,bz b] (.tup [.vec .i64 (turnS a b).1,bol (turnS a b).2]):=by
 have h2:=lV a.heaps b.heaps ha.nh
 have h3:=wa a.boxes b.boxes ha.nb ha.bags
 unfold turnS
 generalize eqv a.heaps b.heaps = e2 at *
 generalize eqv a.boxes b.boxes = e3 at *
 cases e2 with
 | false =>
  rw [Bool.false_and,if_neg (by simp)]
  refine aF Tryz.func161 44 ?_
  exact fD0
 | true =>
 cases e3 with
 | false =>
  rw [Bool.true_and,if_neg (by simp)]
  refine aF Tryz.func161 44 ?_
  exact fD0
 | true =>
  rw [Bool.true_and,if_pos rfl]
  refine aF Tryz.func161 44 ?_
  conv=>whnf
  repeat' (first|exact trivial|((first|(refine ⟨fun hb=>?_,fun hb=>?_⟩<;>(try simp only [nrm] at hb)<;>try exact kZ hb)|refine kV ?_)<;>(conv=>whnf))|refine kY ?_ ?_)
  refine aw.loopS aa (σ:=Nat) [2,7,26,27,28] (fun k=>[.ptr 4 0,.own .i64 87 0 (co a.cells b.cells k).length none,.vec .u8 b.cells,i64 b.cells.length,i64 k]) (fun k=>[(4,.box (bj a)),(87,.row .i64 (co a.cells b.cells k))])
   (fun k=>k ≤ b.cells.length) (fun k=>b.cells.length - k) 0 (by omega) ?_ ?_
  ·exact fD0
  ·intro k hk
   by_cases hlt : k < b.cells.length
   ·have hnx:=rA (a:=a.cells) (b:=b.cells) (k:=k)
    have hln:=lD (a:=a.cells) (b:=b.cells) (k:=k)
    by_cases he : @Eq Int (elt .u8 a.cells (k : Int).toNat) (elt .u8 b.cells (k : Int).toNat)
    ·rw [if_neg (show ¬ gF a.cells b.cells k = true by unfold gF;rw [decide_eq_true_eq];exact not_not_intro he)] at hnx
     conv=>whnf
     repeat' (first|exact trivial|((first|(refine ⟨fun hb=>?_,fun hb=>?_⟩<;>(try simp only [nrm] at hb)<;>try exact kZ hb)|refine kV ?_)<;>(conv=>whnf))|refine kY ?_ ?_)
     all_goals
      refine .to (k + 1) hlt (by omega) ?_
      conv=>whnf
      repeat' (first|exact trivial|((first|(refine ⟨fun hb=>?_,fun hb=>?_⟩<;>(try simp only [nrm] at hb)<;>try exact kZ hb)|refine kV ?_)<;>(conv=>whnf))|refine kY ?_ ?_)
     all_goals (try rw [hnx])
     all_goals first|rfl|exact List.take_length|exact List.length_append.symm|exact lF (t:=.i64) (e:=sy k)
    ·rw [if_pos (show gF a.cells b.cells k = true by unfold gF;rw [decide_eq_true_eq];exact he)] at hnx
     conv=>whnf
     repeat' (first|exact trivial|((first|(refine ⟨fun hb=>?_,fun hb=>?_⟩<;>(try simp only [nrm] at hb)<;>try exact kZ hb)|refine kV ?_)<;>(conv=>whnf))|refine kY ?_ ?_)
     all_goals
      refine .to (k + 1) hlt (by omega) ?_
      conv=>whnf
      repeat' (first|exact trivial|((first|(refine ⟨fun hb=>?_,fun hb=>?_⟩<;>(try simp only [nrm] at hb)<;>try exact kZ hb)|refine kV ?_)<;>(conv=>whnf))|refine kY ?_ ?_)
     all_goals (try rw [hnx])
     all_goals first|rfl|exact List.take_length|exact List.length_append.symm|exact lF (t:=.i64) (e:=sy k)
   ·obtain rfl : k = b.cells.length:=by omega
    conv=>whnf
    repeat' (first|exact trivial|((first|(refine ⟨fun hb=>?_,fun hb=>?_⟩<;>(try simp only [nrm] at hb)<;>try exact kZ hb)|refine kV ?_)<;>(conv=>whnf))|refine kY ?_ ?_)
    all_goals
     show List.take (co a.cells b.cells b.cells.length).length (co a.cells b.cells b.cells.length) = _
     exact List.take_length
theorem DS (c : Chunk) (x y : Int) : Ev1 Tryz.prog 160 [.agg (cells .chunk c),.ptr 0 0,.ptr 2 0] [(0,.box [i64 x]),(2,.box [i64 y])] (bol (cQ x y c)) [(0,.box [i64 x]),(2,.box [i64 y])]:=by
 refine eF Tryz.func160 12 ?_
 conv=>whnf
 repeat' (first|exact trivial|((first|(refine ⟨fun hb=>?_,fun hb=>?_⟩<;>(try simp only [nrm] at hb)<;>try exact kZ hb)|refine kV ?_)<;>(conv=>whnf))|refine kY ?_ ?_)
 all_goals (refine congrArg Value.bool ?_;rw [Bool.eq_iff_iff];simp only [cQ,Bool.and_eq_true,Bool.or_eq_true,Bool.not_eq_true',Bool.and_eq_false_iff,Bool.or_eq_false_iff,decide_eq_true_eq,decide_eq_false_iff_not,beq_iff_eq,beq_eq_false_iff_ne,bne_iff_ne,ne_eq,Bool.false_eq_true,Int.toNat_natCast,eq_self,iff_true,true_iff,iff_false,false_iff,Bool.true_eq_false,not_and,Decidable.not_not,not_true_eq_false,not_false_eq_true];(first|done|omega|(simp_all;done)|(simp_all;omega)))
theorem wc (v : Viw) (hv : OkV v) : Api Tryz.prog 159 [bk v] (bol (nothingB v)):=by
 have h1:=gQ (Bo v aE hv) (.cons (Le.refl _) (.cons (Le.agg (.cons (Le.refl _) (.cons (Le.refl _) (.cons (Le.refl _) (.cons (Le.refl _) (.cons (Le.nil _) (.cons (Le.refl _) (.cons (Le.nil _) (.cons (Le.ff rfl) (.cons (Le.nil _) (.cons (Le.nil _) .nil))))))))))) .nil))
 unfold nothingB
 refine aF Tryz.func159 5 ?_
 exact fD0
theorem lG (v : Viw) (hv : OkV v) : Api Tryz.prog 95 [bk v] (bol (baseB v)):=by
 have h1:=wc v hv
 have h2:=mO v hv
 unfold baseB
 generalize nothingB v = n at *
 generalize aV v = r at *
 cases n<;>cases r
 all_goals
  refine aF Tryz.func95 8 ?_
  conv=>whnf
  repeat' (first|exact trivial|((first|(refine ⟨fun hb=>?_,fun hb=>?_⟩<;>(try simp only [nrm] at hb)<;>try exact kZ hb)|refine kV ?_)<;>(conv=>whnf))|refine kY ?_ ?_)
open Go Go.RowKit Eng
theorem iX {z : Int} (h : z ≤ 1099511627776) : z ≤ (B40 : Nat):=h
theorem DT {t : Ty} {l : List (El t)} {i k : Nat} {x : El t} (h : k < l.length) : elt t (l.set i x) k = if i = k then x else elt t l k:=by
 have h1:=aL t (l.set i x) k (by rw [List.length_set];exact h)
 rw [List.getElem?_set] at h1
 by_cases hik : i = k
 ·rw [if_pos hik,if_pos (by rw [hik];exact h)] at h1
  rw [if_pos hik]
  exact (Option.some.inj h1).symm
 ·rw [if_neg hik,aL t l k h] at h1
  rw [if_neg hik]
  exact (Option.some.inj h1).symm
theorem mY (c : List Int) : ∀ (l : List Int) (w : List Int),(jr c w l).length = w.length
 | [],_=>rfl
 | i :: t,w=>by
  show (jr c (w.set i.toNat (elt .u8 c i.toNat)) t).length = _
  rw [mY c t,List.length_set]
theorem rB (c : List (El .u8)) : ∀ (l : List Int) (w : List (El .u8)) (k : Nat),(∀ i ∈ l,(0 : Int) ≤ i) → k < w.length → elt .u8 (jr c w l) k = if (k : Int) ∈ l then elt .u8 c k else elt .u8 w k
 | [],w,k,_,_=>by rw [if_neg (by simp)];rfl
 | i :: t,w,k,h,hk=>by
  show elt .u8 (jr c (w.set i.toNat (elt .u8 c i.toNat)) t) k = _
  have h0 : (0 : Int) ≤ i:=h i (List.mem_cons_self ..)
  rw [rB c t (w.set i.toNat (elt .u8 c i.toNat)) k (fun j hj=>h j (List.mem_cons_of_mem _ hj)) (by rw [List.length_set];exact hk),DT hk]
  by_cases h1 : (k : Int) ∈ t
  ·rw [if_pos h1,if_pos (List.mem_cons_of_mem _ h1)]
  ·rw [if_neg h1]
   by_cases h2 : i.toNat = k
   ·have h3 : i = (k : Int):=by have:=h0;omega
    rw [if_pos h2,if_pos (by rw [h3];exact List.mem_cons_self ..),h2]
   ·rw [if_neg h2,if_neg]
    intro h4
    rcases List.mem_cons.1 h4 with h5|h5
    ·exact h2 (by have : ((k : Nat) : Int) = i:=h5;omega)
    ·exact h1 h5
theorem il {a b : List (El .u8)} {n : Nat} {i : Int} : i ∈ co a b n ↔ ∃ k : Nat,i = (k : Int) ∧ k < n ∧ ¬ @Eq Int (elt .u8 a k) (elt .u8 b k):=by
 unfold co
 rw [List.mem_map]
 constructor
 ·rintro ⟨k,hk,rfl⟩
  rw [List.mem_filter,List.mem_range] at hk
  exact ⟨k,rfl,hk.1,of_decide_eq_true hk.2⟩
 ·rintro ⟨k,rfl,h1,h2⟩
  exact ⟨k,List.mem_filter.2 ⟨List.mem_range.2 h1,decide_eq_true h2⟩,rfl⟩
theorem pD {a b : List (El .u8)} (h : a.length = b.length) : jr b a (co a b b.length) = b:=by
 refine ii (tt:=.u8) (by rw [mY,h]) fun k hk=>?_
 rw [mY] at hk
 rw [rB b _ a k (fun i hi=>by obtain ⟨j,rfl,_⟩:=il.1 hi;show (0 : Int) ≤ (j : Int);omega) hk]
 by_cases h1 : ((k : Nat) : Int) ∈ co a b b.length
 ·rw [if_pos h1]
 ·rw [if_neg h1]
  by_cases h2 : @Eq Int (elt .u8 a k) (elt .u8 b k)
  ·exact h2
  ·exact absurd (il.2 ⟨k,rfl,by omega,h2⟩) h1
theorem gi {v : Viw} {x y : Int} (h : (aA v x y).2 = true) : (aA v x y).1 ∈ v.chunks ∧ (aA v x y).1.x = x ∧ (aA v x y).1.y = y:=by
 unfold aA at h ⊢
 by_cases h1 : am (cQ x y) v.chunks 0 < 0
 ·rw [if_pos h1] at h;cases h
 ·rw [if_neg h1]
  have h2:=m9 (t:=.chunk) (cQ x y) v.chunks (by omega)
  have h3:=fX (cQ x y) v.chunks 0
  simp only [cQ,Bool.and_eq_true,decide_eq_true_eq] at h2
  exact ⟨ay (t:=.chunk) (by omega),h2.1,h2.2⟩
theorem Ca {v : Viw} {x y : Int} : (aA v x y).2 = v.chunks.any (cQ x y):=by
 rw [← jn (cQ x y) v.chunks 0]
 unfold aA
 by_cases h1 : am (cQ x y) v.chunks 0 < 0
 ·rw [if_pos h1];exact (decide_eq_false (by omega)).symm
 ·rw [if_neg h1];exact (decide_eq_true (by omega)).symm
theorem Cb {c : Chunk} (hr : ar c = true) (hi : ∀ h ∈ c.heaps,0 ≤ h.slot.item ∧ h.slot.item ≤ 255) (hj : ∀ x ∈ c.boxes,mu x.bag) : (aK c).length ≤ 5000 ∧ 64 ≤ (aK c).length:=by
 have hu : ∀ z : Int,z < 1000 → (aj z.toNat).length ≤ 2:=by
  intro z hz
  unfold aj aC
  split
  ·simp
  ·have : z.toNat / 128 < 128:=by omega
   rw [List.length_cons,aC,if_pos this];simp
 have hRC:=fV hr
 have hlen:=hRC.len
 have hH:=hRC.head
 simp only [da,Bool.and_eq_true,decide_eq_true_eq] at hH
 obtain ⟨hx0,hy0,hx1,hy1,-,hh32⟩:=hH
 obtain ⟨hbl,hbx⟩:=eZ _ _ _ hRC.go
 have f1:=a8 cg 6 c.heaps fun h hm=>by
  have h1:=kG (dm hRC.heaps hm)
  have h2:=hi h hm
  have a1:=hu h.cell (by omega)
  have a2:=hu h.slot.item (by omega)
  have a3:=hu h.slot.n (by omega)
  unfold cg an
  simp only [List.flatMap_cons,List.flatMap_nil,List.append_nil,List.length_append]
  omega
 have f2:=a8 cR 24 c.boxes fun x hx=>by
  have f3:=a8 a_ 4 x.bag fun s hs=>by
   have h1:=hj x hx s hs
   have h2:=iV (dm (by simpa only [cn,Bool.not_eq_true'] using (hbx x hx).2) hs)
   have a2:=hu s.item (by omega)
   have a3:=hu s.n (by omega)
   unfold a_ an
   simp only [List.flatMap_cons,List.flatMap_nil,List.append_nil,List.length_append]
   omega
  have:=(hbx x hx).1
  unfold cR
  omega
 have f4 : (an [c.x,c.y]).length ≤ 20:=aU _
 have f5 : (an [(c.heaps.length : Int)]).length ≤ 10:=aU _
 unfold aK
 simp only [List.length_append]
 omega
structure gj (c : Chunk) : Prop where
 right : ar c = true
 cells : au c.cells
 items : ∀ h ∈ c.heaps,0 ≤ h.slot.item ∧ h.slot.item ≤ 255
 bags : ∀ x ∈ c.boxes,mu x.bag
theorem gj.read {c : Chunk} (h : gj c) : bh (aK c) = (c,0):=xj (tJ h.right h.cells h.items h.bags) h.right h.items h.bags
theorem gj.le {c : Chunk} (h : gj c) : (aK c).length ≤ 5000 ∧ 64 ≤ (aK c).length:=Cb h.right h.items h.bags
theorem gj.len {c : Chunk} (h : gj c) : c.cells.length = 64:=by have:=(fV h.right).len;omega
theorem gj.at {c : Chunk} (h : gj c) : 0 ≤ c.x ∧ 0 ≤ c.y ∧ c.x < 16 ∧ c.y < 16:=by
 have hH:=(fV h.right).head
 simp only [da,Bool.and_eq_true,decide_eq_true_eq] at hH
 omega
theorem Ac {b : List Int} (hb : au b) {c : Chunk} (hg : gj c) {s : Rd} {r : List Int} (hs : s.bad = false) (hd : b.drop s.pos = (aj (aK c).length ++ aK c) ++ r) : db b c.x c.y s = (c,⟨s.pos + (aj (aK c).length ++ aK c).length,false⟩):=by
 have h1:=(tK hb (most:=5000) (by decide)).write s (aK c) r hs hg.le.1 hd
 unfold db
 rw [if_neg (by rw [hs];simp),h1]
 dsimp only
 rw [hg.read,if_neg (by simp)]
theorem yu (a b : List Int) : an (a ++ b) = an a ++ an b:=by unfold an;rw [List.flatMap_append]
theorem Cc {b : List Int} (hb : au b) {v v' : Viw} {c : Chunk} (hg : gj c) (hv : ∀ k ∈ v.chunks,k.cells.length = 64) {s : Rd} {r : List Int} (hs : s.bad = false) (hd : b.drop s.pos = formY (aA v c.x c.y) c ++ r) :
  (v' = v → cq b (aA v' c.x c.y) c.x c.y (ac b 2 s).1 (ac b 2 s).2 = (c,⟨s.pos + (formY (aA v c.x c.y) c).length,false⟩)) ∧
  ((cq b (aA v' c.x c.y) c.x c.y (ac b 2 s).1 (ac b 2 s).2).2.bad = true ∨ (((cq b (aA v' c.x c.y) c.x c.y (ac b 2 s).1 (ac b 2 s).2).1.x = c.x ∧ (cq b (aA v' c.x c.y) c.x c.y (ac b 2 s).1 (ac b 2 s).2).1.y = c.y ∧ ((aA v c.x c.y).2 = false → (cq b (aA v' c.x c.y) c.x c.y (ac b 2 s).1 (ac b 2 s).2).1 = c)) ∧ (cq b (aA v' c.x c.y) c.x c.y (ac b 2 s).1 (ac b 2 s).2).2 = ⟨s.pos + (formY (aA v c.x c.y) c).length,false⟩)):=by
 have hW : b.drop s.pos = bH c ++ r → cq b (aA v' c.x c.y) c.x c.y (ac b 2 s).1 (ac b 2 s).2 = (c,⟨s.pos + (bH c).length,false⟩):=by
  intro hd
  unfold bH at hd ⊢
  rw [ew,List.append_assoc] at hd
  have h1:=dZ (most:=2) hs hd (by omega) (by decide)
  have h2:=Ac hb hg (s:=⟨s.pos + (aj (2 : Int).toNat).length,false⟩) rfl (cw hd)
  rw [h1]
  unfold cq
  rw [if_pos rfl,h2,ew]
  refine Prod.ext rfl (congrArg (fun p=>Rd.mk p false) ?_)
  show s.pos + (aj (2 : Int).toNat).length + _ = _
  simp only [List.length_append]
  omega
 by_cases c1 : ((aA v c.x c.y).2 && (turnS (aA v c.x c.y).1 c).2) = true
 ·rw [Bool.and_eq_true] at c1
  have hf:=gi c1.1
  have hlen:=hv _ hf.1
  have hcl:=hg.len
  have e1 : formY (aA v c.x c.y) c = (if (turnS (aA v c.x c.y).1 c).1.length = 0 then an [0] else if (turnS (aA v c.x c.y).1 c).1.length ≤ 16 then e_ c (turnS (aA v c.x c.y).1 c).1 else bH c):=if_pos (by rw [c1.1,c1.2];rfl)
  have hT : (aA v c.x c.y).1.heaps = c.heaps ∧ (aA v c.x c.y).1.boxes = c.boxes ∧ (turnS (aA v c.x c.y).1 c).1 = co (aA v c.x c.y).1.cells c.cells c.cells.length:=by
   have h2:=c1.2
   unfold turnS at h2 ⊢
   by_cases h3 : (eqv (aA v c.x c.y).1.heaps c.heaps && eqv (aA v c.x c.y).1.boxes c.boxes) = true
   ·rw [if_pos h3]
    rw [Bool.and_eq_true,bu,bu] at h3
    exact ⟨h3.1,h3.2,rfl⟩
   ·rw [if_neg h3] at h2;cases h2
  obtain ⟨t1,t2,t3⟩:=hT
  have hset:=pD (a:=(aA v c.x c.y).1.cells) (b:=c.cells) (by rw [hlen,hcl])
  have hwas : ∀ l,l = c.cells → ({ (aA v c.x c.y).1 with cells:=l } : Chunk) = c:=by
   intro l hl
   obtain ⟨x,y,cs,hh,bb⟩:=c
   obtain ⟨_,f2,f3⟩:=hf
   dsimp only at *
   rw [f2,f3,t1,t2,hl]
  rw [t3] at e1
  by_cases c2 : (co (aA v c.x c.y).1.cells c.cells c.cells.length).length = 0
  ·rw [if_pos c2] at e1
   rw [e1] at hd ⊢
   rw [ew] at hd
   have h1:=dZ (most:=2) hs hd (by omega) (by decide)
   rw [h1]
   have h0 : jr c.cells (aA v c.x c.y).1.cells (co (aA v c.x c.y).1.cells c.cells c.cells.length) = (aA v c.x c.y).1.cells:=by
    rw [List.length_eq_zero_iff.1 c2];rfl
   have hsame : (aA v c.x c.y).1 = c:=hwas _ (by rw [← h0];exact hset)
   unfold cq
   rw [if_neg (by omega)]
   constructor
   ·rintro rfl
    rw [if_neg (by rw [c1.1];simp),if_neg (by omega),hsame,ew]
   ·by_cases c3 : (aA v' c.x c.y).2 = false
    ·left;rw [if_pos c3]
    ·have hf':=gi (by simpa using c3 : (aA v' c.x c.y).2 = true)
     right
     rw [if_neg c3,if_neg (by omega),ew]
     exact ⟨⟨hf'.2.1,hf'.2.2,fun h=>by rw [c1.1] at h;cases h⟩,rfl⟩
  ·rw [if_neg c2] at e1
   by_cases c4 : (co (aA v c.x c.y).1.cells c.cells c.cells.length).length ≤ 16
   ·rw [if_pos c4] at e1
    rw [e1] at hd ⊢
    generalize hD : co (aA v c.x c.y).1.cells c.cells c.cells.length = D at *
    have hDm : ∀ i : Int,i ∈ D → 0 ≤ i ∧ i ≤ 63 ∧ (0 : Int) ≤ elt .u8 c.cells i.toNat ∧ (elt .u8 c.cells i.toNat : Int) ≤ 255:=by
     intro i hi
     rw [← hD] at hi
     obtain ⟨k,rfl,h1,h2⟩:=il.1 hi
     have h5:=hg.cells _ (ay (t:=.u8) (l:=c.cells) (i:=k) h1)
     refine ⟨by omega,by omega,?_⟩
     rw [Int.toNat_natCast];exact h5
    have hd2:=hd
    unfold e_ at hd2
    rw [fZ,ew,List.append_assoc,List.append_assoc] at hd2
    have h1:=dZ (most:=2) hs hd2 (by omega) (by decide)
    have h2:=dZ (b:=b) (s:=⟨s.pos + (aj (1 : Int).toNat).length,false⟩) (most:=16) (z:=(D.length : Int)) rfl (cw hd2) (by omega) (by decide)
    have h3:=fun w=>wm (b:=b) c D ⟨s.pos + (aj (1 : Int).toNat).length + (aj (D.length : Int).toNat).length,false⟩ r w rfl hDm (cw (cw hd2))
    have hpos : s.pos + (aj (1 : Int).toNat).length + (aj (D.length : Int).toNat).length + (D.flatMap (cI c)).length = s.pos + (e_ c D).length:=by
     unfold e_
     rw [fZ,ew]
     simp only [List.length_append]
     omega
    rw [hpos] at h3
    rw [h1]
    unfold cq
    dsimp only
    rw [if_neg (by omega),h2]
    dsimp only
    simp only [Int.toNat_natCast] at h3 ⊢
    rw [h3]
    constructor
    ·rintro rfl
     rw [if_neg (by rw [c1.1];simp),if_pos trivial]
     exact Prod.ext (hwas _ hset) rfl
    ·by_cases c3 : (aA v' c.x c.y).2 = false
     ·left;rw [if_pos c3]
     ·have hf':=gi (by simpa using c3 : (aA v' c.x c.y).2 = true)
      right
      rw [if_neg c3,if_pos trivial]
      exact ⟨⟨hf'.2.1,hf'.2.2,fun h=>by rw [c1.1] at h;cases h⟩,rfl⟩
   ·rw [if_neg c4] at e1
    rw [e1] at hd ⊢
    rw [hW hd]
    exact ⟨fun _=>rfl,.inr ⟨⟨rfl,rfl,fun _=>rfl⟩,rfl⟩⟩
 ·have e1 : formY (aA v c.x c.y) c = bH c:=if_neg c1
  rw [e1] at hd ⊢
  rw [hW hd]
  exact ⟨fun _=>rfl,.inr ⟨⟨rfl,rfl,fun _=>rfl⟩,rfl⟩⟩
theorem rC {b : List Int} (hb : au b) {v v' : Viw} {c : Chunk} (hg : gj c) (hv : ∀ k ∈ v.chunks,k.cells.length = 64) {s : Rd} {r : List Int} (hs : s.bad = false) (hd : b.drop s.pos = chunkY v c ++ r) :
  (v' = v → br b v' s = (c,⟨s.pos + (chunkY v c).length,false⟩)) ∧
  ((br b v' s).2.bad = true ∨ (((br b v' s).1.x = c.x ∧ (br b v' s).1.y = c.y ∧ ((aA v c.x c.y).2 = false → (br b v' s).1 = c)) ∧ (br b v' s).2 = ⟨s.pos + (chunkY v c).length,false⟩)):=by
 have hat:=hg.at
 have hd2:=hd
 unfold chunkY at hd2
 rw [List.append_assoc] at hd2
 obtain ⟨h1,h2,h3⟩:=jq (b:=b) (m:=B40) (k:=B40) hs hd2 ⟨hat.1,iX (by omega)⟩ ⟨hat.2.1,iX (by omega)⟩ (by decide) (by decide)
 have h4:=Cc hb hg hv (v:=v) (v':=v') (s:=⟨s.pos + (an [c.x,c.y]).length,false⟩) (r:=r) rfl (cw hd2)
 have e : br b v' s = cq b (aA v' c.x c.y) c.x c.y (ac b 2 ⟨s.pos + (an [c.x,c.y]).length,false⟩).1 (ac b 2 ⟨s.pos + (an [c.x,c.y]).length,false⟩).2:=by
  unfold br
  dsimp only
  rw [h3,h1]
 rw [e,show s.pos + (chunkY v c).length = (⟨s.pos + (an [c.x,c.y]).length,false⟩ : Rd).pos + (formY (aA v c.x c.y) c).length by unfold chunkY;rw [List.length_append];exact (Nat.add_assoc ..).symm]
 exact h4
open Go Go.RowKit Eng
theorem bD {c : Chunk} (h : ar c = true) : gj c:=by
 have ho:=fU h
 refine ⟨h,ho.cells,ho.heaps,fun x hx s hs=>?_⟩
 have h1:=(ho.boxes x hx).1 s hs
 have h2:=iV (dm (by simpa only [cn,Bool.not_eq_true'] using (lA h hx).2) hs)
 exact ⟨h1,by omega,by omega⟩
structure wd (v : Viw) : Prop where
 tick : 0 ≤ v.tick ∧ v.tick ≤ 1099511627776
 id : 0 ≤ v.me.id ∧ v.me.id ≤ 1073741824
 x : 0 ≤ v.me.x ∧ v.me.x ≤ 127
 y : 0 ≤ v.me.y ∧ v.me.y ≤ 127
 bag : v.me.bag.length = 8
 bagS : ∀ s ∈ v.me.bag,(0 ≤ s.item ∧ s.item ≤ 255) ∧ 0 ≤ s.n ∧ s.n ≤ 16
 w : -1 ≤ v.me.wth ∧ v.me.wth ≤ 1073741824
 off : (v.me.wth = -1 ∧ v.me.offer = [] ∧ v.me.agrees = false) ∨ (0 ≤ v.me.wth ∧ v.me.offer.length = 8)
 offS : ∀ s ∈ v.me.offer,(0 ≤ s.item ∧ s.item ≤ 255) ∧ 0 ≤ s.n ∧ s.n ≤ 16
 nc : v.chunks.length ≤ 49
 no : v.others.length ≤ 32
 chunks : ∀ c ∈ v.chunks,ar c = true
 others : ∀ s ∈ v.others,(0 ≤ s.id ∧ s.id ≤ 1073741824) ∧ (0 ≤ s.x ∧ s.x ≤ 127) ∧ 0 ≤ s.y ∧ s.y ≤ 127
theorem we {α : Ty} {l : List (El α)} {f : Nat → Bool} {p : El α → Prop} (h : (List.range l.length).all f = true) (hp : ∀ i,i < l.length → f i = true → p (elt α l i)) : ∀ x ∈ l,p x:=by
 intro x hx
 obtain ⟨i,hi,rfl⟩:=List.getElem_of_mem hx
 have h2:=List.all_eq_true.1 h i (List.mem_range.2 hi)
 have h3:=hp i hi h2
 have h4:=aL α l i hi
 rw [List.getElem?_eq_getElem hi] at h4
 rw [Option.some.inj h4];exact h3
theorem dN {v : Viw} (h : aV v = true) : wd v:=by
 unfold aV jC at h
 simp only [Bool.and_eq_true,decide_eq_true_eq] at h
 obtain ⟨⟨⟨h1,h2,h3,h4,h5⟩,h6⟩,h7⟩:=h
 have hs : bN v.me = true ∧ bB 16 v.me.x v.me.y = true:=by
  unfold bF at h1
  by_cases q1 : cd dv = false
  ·rw [if_pos q1] at h1;cases h1
  ·rw [if_neg q1] at h1
   by_cases q2 : bN v.me = false ∨ bB dv.size v.me.x v.me.y = false
   ·rw [if_pos q2] at h1;cases h1
   ·rw [not_or] at q2
    exact ⟨by simpa using q2.1,by simpa [dv] using q2.2⟩
 obtain ⟨s1,s2⟩:=hs
 obtain ⟨p1,p2,p3,p4,p5⟩:=pA s1
 have hok:=BO s1
 have hxy : 0 ≤ v.me.x ∧ v.me.x ≤ 127 ∧ 0 ≤ v.me.y ∧ v.me.y ≤ 127:=by
  unfold bB at s2
  rw [vz (by omega) (by omega)] at s2
  simp only [Bool.and_eq_true,decide_eq_true_eq] at s2
  omega
 have hb : ∀ l : List aG,cn l = true → (∀ s ∈ l,bP s) → ∀ s ∈ l,(0 ≤ s.item ∧ s.item ≤ 255) ∧ 0 ≤ s.n ∧ s.n ≤ 16:=fun l hl ho s hs=>by
  have h2:=iV (dm (by simpa only [cn,Bool.not_eq_true'] using hl) hs)
  exact ⟨ho s hs,by omega,by omega⟩
 refine ⟨⟨h2,h3⟩,⟨p1,p2⟩,by omega,by omega,by omega,hb _ p4 hok.bag,?_,?_,?_,by omega,by omega,?_,?_⟩
 ·rcases p5 with ⟨q,_⟩|⟨q1,q2,_⟩<;>omega
 ·rcases p5 with ⟨q1,q2,q3⟩|⟨q1,q2,q3,q4,q5⟩
  ·exact .inl ⟨q1,q2,q3⟩
  ·exact .inr ⟨q1,by omega⟩
 ·rcases p5 with ⟨q1,q2,q3⟩|⟨q1,q2,q3,q4,q5⟩
  ·rw [q2];simp
  ·exact hb _ q5 hok.offer
 ·refine we (α:=.chunk) h6 fun i hi h=>?_
  unfold fM at h
  rw [Bool.and_eq_true] at h
  exact h.1
 ·refine we (α:=.seen) h7 fun i hi h=>?_
  unfold fN at h
  rw [decide_eq_true_eq] at h
  omega
theorem jM {v : Viw} (h : baseB v = true) : ∀ k ∈ v.chunks,ar k = true:=by
 unfold baseB nothingB at h
 rw [Bool.or_eq_true,bu] at h
 rcases h with h|h
 ·rw [h];intro k hk;cases hk
 ·exact (dN h).chunks
theorem eu {l : List Int} (h : ∀ z ∈ l,z ≤ 1099511627777) : au (an l):=fun i hi=>by
 obtain ⟨z,hz,hi⟩:=List.mem_flatMap.1 hi
 exact m8 9 z.toNat (Nat.lt_of_le_of_lt (show z.toNat ≤ 1099511627777 by have:=h z hz;omega) (by decide)) i hi
theorem Cd {v : Viw} (hv : ∀ k ∈ v.chunks,ar k = true) {c : Chunk} (h : gj c) : au (chunkY v c):=by
 have hat:=h.at
 have hW : au (bH c):=by
  unfold bH
  refine dO (eu (by simp)) (dO (m8 9 _ (Nat.lt_of_le_of_lt h.le.1 (by decide))) (tJ h.right h.cells h.items h.bags))
 unfold chunkY
 refine dO (eu (by simp;omega)) ?_
 unfold formY
 split
 ·rename_i c1
  split
  ·exact eu (by simp)
  ·split
   ·rename_i c3
    unfold e_
    refine dO (eu (by simp;omega)) (iZ fun i hi=>?_)
    unfold cI
    refine eu fun z hz=>?_
    simp only [List.mem_cons,List.not_mem_nil,or_false] at hz
    have hD : i ∈ co (aA v c.x c.y).1.cells c.cells c.cells.length:=by
     unfold turnS at hi
     split at hi
     ·exact hi
     ·cases hi
    obtain ⟨k,rfl,k1,k2⟩:=il.1 hD
    have h5 : (0 : Int) ≤ elt .u8 c.cells k ∧ @LE.le Int _ (elt .u8 c.cells k) 255:=h.cells _ (ay (t:=.u8) (l:=c.cells) (i:=k) k1)
    have h6:=h.len
    rcases hz with rfl|rfl
    ·omega
    ·show @LE.le Int _ (elt .u8 c.cells (k : Int).toNat) _
     rw [Int.toNat_natCast];omega
   ·exact hW
 ·exact hW
theorem kH {v n : Viw} (hv : baseB v = true) (hn : aV n = true) : au (makeY v n):=by
 have h:=dN hn
 have hb:=jM hv
 have hS : ∀ l : List aG,(∀ s ∈ l,(0 ≤ s.item ∧ s.item ≤ 255) ∧ 0 ≤ s.n ∧ s.n ≤ 16) → au (l.flatMap a_):=fun l hl=>iZ fun s hs=>eu (by have:=hl s hs;simp;omega)
 have h1:=h.tick;have h2:=h.id;have h3:=h.x;have h4:=h.y;have h5:=h.w;have h6:=h.nc;have h7:=h.no
 unfold makeY
 refine dO (dO (dO (dO (dO (dO (dO (eu (by simp;omega)) (hS _ h.bagS)) (eu ?_)) (hS _ h.offS)) (eu (by simp;omega))) (iZ fun c hc=>Cd hb (bD (h.chunks c hc)))) (eu (by simp;omega))) (iZ fun s hs=>eu ?_)
 ·have : agI n.me.agrees ≤ 1:=by unfold agI;split<;>omega
  simp;omega
 ·have:=h.others s hs
  simp;omega
theorem Ad {b : List Int} {l : List aG} (hl : l.length = 8) (h : ∀ s ∈ l,(0 ≤ s.item ∧ s.item ≤ 255) ∧ 0 ≤ s.n ∧ s.n ≤ 16) {s : Rd} {r : List Int} (hs : s.bad = false) (hd : b.drop s.pos = l.flatMap a_ ++ r) : aO (bG b B40) 8 s = (l,⟨s.pos + (l.flatMap a_).length,false⟩):=by
 rw [← hl]
 exact Ci l s r hs (fun x hx s r h1 h2=>xk h1 h2 (h x hx).1 ⟨(h x hx).2.1,iX (by have:=(h x hx).2.2;omega)⟩ (by decide)) hd
structure At (b r : List Int) (s : Rd) : Prop where
 good : s.bad = false
 le : s.pos ≤ b.length
 ahead : b.drop s.pos = r
theorem jU {b e r : List Int} {s : Rd} (h : At b (e ++ r) s) : At b r ⟨s.pos + e.length,false⟩:=by
 refine ⟨rfl,?_,cw h.ahead⟩
 have h1:=congrArg List.length h.ahead
 rw [List.length_drop,List.length_append] at h1
 have:=h.le
 show s.pos + e.length ≤ b.length
 omega
theorem FY {b : List Int} {s : Rd} (h : At b [] s) : s.bad = false ∧ s.pos = b.length:=by
 have h1:=congrArg List.length h.ahead
 rw [List.length_drop,List.length_nil] at h1
 have:=h.le
 exact ⟨h.good,by omega⟩
theorem gk {b r : List Int} {s : Rd} {z : Int} {most : Nat} (h : At b (aj z.toNat ++ r) s) (hz : 0 ≤ z ∧ z ≤ most) (hm : most < 2 * 128 ^ 9) : (ac b most s).1 = z ∧ At b r (ac b most s).2:=by
 rw [dZ h.good h.ahead hz hm]
 exact ⟨rfl,jU h⟩
theorem yv {b r : List Int} {l : List aG} (hl : l.length = 8) (ho : ∀ s ∈ l,(0 ≤ s.item ∧ s.item ≤ 255) ∧ 0 ≤ s.n ∧ s.n ≤ 16) {s : Rd} (h : At b (l.flatMap a_ ++ r) s) : (aO (bG b B40) 8 s).1 = l ∧ At b r (aO (bG b B40) 8 s).2:=by
 rw [Ad hl ho h.good h.ahead]
 exact ⟨rfl,jU h⟩
def ue (n : Viw) : List Int:=an [n.tick,n.me.id,n.me.x,n.me.y] ++ n.me.bag.flatMap a_ ++ an [n.me.wth + 1,agI n.me.agrees] ++ n.me.offer.flatMap a_ ++ an [(n.chunks.length : Int)]
theorem tA {v' n : Viw} (hn : wd n) {b r : List Int} (hd : b = ue n ++ r) :
  (tkK v' b).t.1 = n.tick ∧ (⟨(tkK v' b).id.1,(tkK v' b).x.1,(tkK v' b).y.1,(tkK v' b).bag.1,(tkK v' b).w.1 - 1,(tkK v' b).off.1,decide ((tkK v' b).ag.1 = 1)⟩ : Player) = n.me ∧ (tkK v' b).nc.1 = (n.chunks.length : Int) ∧ At b r (tkK v' b).nc.2:=by
 have h1:=hn.tick;have h2:=hn.id;have h3:=hn.x;have h4:=hn.y;have h5:=hn.w;have h6:=hn.nc
 have hag : 0 ≤ agI n.me.agrees ∧ agI n.me.agrees ≤ (1 : Nat):=by unfold agI;split<;>omega
 have q0 : At b (aj n.tick.toNat ++ (aj n.me.id.toNat ++ (aj n.me.x.toNat ++ (aj n.me.y.toNat ++ (n.me.bag.flatMap a_ ++ (aj (n.me.wth + 1).toNat ++ (aj (agI n.me.agrees).toNat ++ (n.me.offer.flatMap a_ ++ (aj (n.chunks.length : Int).toNat ++ r))))))))) ⟨0,false⟩:=by
  refine ⟨rfl,Nat.zero_le _,?_⟩
  show b.drop 0 = _
  rw [List.drop_zero,hd]
  unfold ue
  simp only [fZ,show an [] = [] from rfl,List.append_nil,List.append_assoc]
 obtain ⟨a1,q1⟩:=gk (most:=B40) q0 ⟨h1.1,iX h1.2⟩ (by decide)
 obtain ⟨a2,q2⟩:=gk (most:=B40) q1 ⟨h2.1,iX (by omega)⟩ (by decide)
 obtain ⟨a3,q3⟩:=gk (most:=B40) q2 ⟨h3.1,iX (by omega)⟩ (by decide)
 obtain ⟨a4,q4⟩:=gk (most:=B40) q3 ⟨h4.1,iX (by omega)⟩ (by decide)
 obtain ⟨a5,q5⟩:=yv hn.bag hn.bagS q4
 obtain ⟨a6,q6⟩:=gk (most:=B40) q5 ⟨by omega,iX (by omega)⟩ (by decide)
 obtain ⟨a7,q7⟩:=gk (most:=1) q6 hag (by decide)
 have hoff : (tkK v' b).off.1 = n.me.offer ∧ At b (aj (n.chunks.length : Int).toNat ++ r) (tkK v' b).off.2:=by
  have e : (tkK v' b).off = if 0 ≤ (tkK v' b).w.1 - 1 then aO (bG b B40) 8 (tkK v' b).ag.2 else ([],(tkK v' b).ag.2):=rfl
  have e2 : (tkK v' b).w.1 = n.me.wth + 1:=a6
  rw [e,e2]
  rcases hn.off with ⟨o1,o2,_⟩|⟨o1,o2⟩
  ·rw [if_neg (by omega),o2]
   refine ⟨rfl,?_⟩
   rw [o2] at q7
   exact q7
  ·rw [if_pos (by omega)]
   exact yv o2 hn.offS q7
 obtain ⟨a9,q9⟩:=gk (most:=49) hoff.2 (by omega) (by decide)
 refine ⟨a1,?_,a9,q9⟩
 have e2 : (tkK v' b).w.1 - 1 = n.me.wth:=by rw [show (tkK v' b).w.1 = n.me.wth + 1 from a6];omega
 have e3 : decide ((tkK v' b).ag.1 = 1) = n.me.agrees:=by
  rw [show (tkK v' b).ag.1 = agI n.me.agrees from a7]
  unfold agI
  cases n.me.agrees<;>rfl
 rw [show (tkK v' b).id.1 = n.me.id from a2,show (tkK v' b).x.1 = n.me.x from a3,show (tkK v' b).y.1 = n.me.y from a4,show (tkK v' b).bag.1 = n.me.bag from a5,e2,hoff.1,e3]
theorem tB {α : Type} {R : α → α → Prop} (h : ∀ a,R a a) : ∀ l : List α,sA R l l
 | []=>.nil
 | a :: l=>.cons (h a) (tB h l)
theorem rD (v n : Viw) : makeY v n = ue n ++ (n.chunks.flatMap (chunkY v) ++ (aj (n.others.length : Int).toNat ++ (n.others.flatMap bS ++ []))):=by
 unfold makeY ue
 simp only [fZ,show an [] = [] from rfl,List.append_nil,List.append_assoc]
theorem Ce {v v' n : Viw} (hn : aV n = true) (hv : baseB v = true) : ((tkK v' (makeY v n)).os.2.bad = true ∧ ¬ v' = v) ∨ ((tkK v' (makeY v n)).os.2.bad = false ∧ (tkK v' (makeY v n)).os.2.pos = (makeY v n).length ∧ (bM v' (makeY v n)).tick = n.tick ∧ (bM v' (makeY v n)).me = n.me ∧ (bM v' (makeY v n)).others = n.others ∧ (v' = v → (bM v' (makeY v n)).chunks = n.chunks) ∧
  sA (fun c k : Chunk=>k.x = c.x ∧ k.y = c.y ∧ ((aA v c.x c.y).2 = false → k = c)) n.chunks (bM v' (makeY v n)).chunks):=by
 have hP:=dN hn
 have h8:=kH hv hn
 have hcl : ∀ k ∈ v.chunks,k.cells.length = 64:=fun k hk=>by have:=fT (jM hv k hk);omega
 have hsp:=rD v n
 generalize makeY v n = b at *
 obtain ⟨a1,a2,a3,q⟩:=tA (v':=v') hP hsp
 have hcs : (tkK v' b).cs = ao (br b v') n.chunks.length (tkK v' b).nc.2:=by
  show ao (br b v') (tkK v' b).nc.1.toNat (tkK v' b).nc.2 = _
  rw [a3,Int.toNat_natCast]
 have hdead : (tkK v' b).cs.2.bad = true → (tkK v' b).os.2.bad = true:=fun h=>by
  have e : (tkK v' b).os = ao (ck b) (tkK v' b).no.1.toNat (tkK v' b).no.2:=rfl
  have e2 : (tkK v' b).no.2.bad = true:=bg h
  rw [e,cA _ _ e2];exact e2
 have hlive : At b (aj (n.others.length : Int).toNat ++ (n.others.flatMap bS ++ [])) (tkK v' b).cs.2 → (tkK v' b).os.2.bad = false ∧ (tkK v' b).os.2.pos = b.length ∧ (tkK v' b).os.1 = n.others:=fun h=>by
  obtain ⟨c1,c2⟩:=gk (most:=32) h (by have:=hP.no;omega) (by decide)
  have e : (tkK v' b).os = ao (ck b) n.others.length (tkK v' b).no.2:=by
   show ao (ck b) (tkK v' b).no.1.toNat (tkK v' b).no.2 = _
   rw [show (tkK v' b).no.1 = (n.others.length : Int) from c1,Int.toNat_natCast]
  have c3 : At b (n.others.flatMap bS ++ []) (tkK v' b).no.2:=c2
  have c4:=rG (f:=ck b) (enc:=bS) n.others (tkK v' b).no.2 [] c3.good (fun x hx s r s1 s2=>by
   have:=hP.others x hx
   exact Af s1 s2 ⟨by omega,iX (by omega)⟩ ⟨by omega,iX (by omega)⟩ ⟨by omega,iX (by omega)⟩) c3.ahead
  have c5:=FY (jU c3)
  rw [e,c4]
  exact ⟨rfl,c5.2,rfl⟩
 by_cases hvv : v' = v
 ·right
  subst hvv
  have c4:=rG (f:=br b v') (enc:=chunkY v') n.chunks (tkK v' b).nc.2 _ q.good (fun c hc s r s1 s2=>(rC h8 (v:=v') (v':=v') (bD (hP.chunks c hc)) hcl s1 s2).1 rfl) q.ahead
  rw [← hcs] at c4
  have c5:=jU q
  obtain ⟨l1,l2,l3⟩:=hlive (by rw [c4];exact c5)
  have l4 : (tkK v' b).cs.1 = n.chunks:=by rw [c4]
  refine ⟨l1,l2,a1,a2,l3,fun _=>l4,?_⟩
  rw [show (bM v' b).chunks = n.chunks from l4]
  exact tB (fun c=>⟨rfl,rfl,fun _=>rfl⟩) _
 ·rcases Cj (f:=br b v') (enc:=chunkY v) (R:=fun c k : Chunk=>k.x = c.x ∧ k.y = c.y ∧ ((aA v c.x c.y).2 = false → k = c)) n.chunks (tkK v' b).nc.2 _ q.good (fun c hc s r s1 s2=>(rC h8 (v:=v) (v':=v') (bD (hP.chunks c hc)) hcl s1 s2).2) q.ahead with c4|⟨c4,c5⟩
  ·left
   rw [← hcs] at c4
   exact ⟨hdead c4,hvv⟩
  ·right
   rw [← hcs] at c4 c5
   obtain ⟨l1,l2,l3⟩:=hlive (by rw [c5];exact jU q)
   exact ⟨l1,l2,a1,a2,l3,fun h=>absurd h hvv,c4⟩
theorem om {v n : Viw} (hn : aV n = true) (hv : baseB v = true) : takeY v (makeY v n) = (n,0):=by
 rcases Ce (v':=v) hn hv with ⟨_,h⟩|⟨h1,h2,h3,h4,h5,h6,_⟩
 ·exact absurd rfl h
 ·have e : bM v (makeY v n) = n:=by
   have h6:=h6 rfl
   obtain ⟨a,b,c,d⟩:=n
   generalize bM v _ = T at *
   obtain ⟨a',b',c',d'⟩:=T
   dsimp only at *
   rw [h3,h4,h5,h6]
  unfold takeY
  rw [if_neg (by rw [hv];simp),if_neg,e,if_pos]
  ·exact ⟨by unfold makeB;rw [hn,hv];rfl,rfl⟩
  ·rw [h1]
   rintro (h|h)
   ·cases h
   ·exact h h2
open Go Go.RowKit Eng
theorem DU (x y : Int) (l : List (El .chunk)) (hl : l.length ≤ 2000000000000) : Ev1 Tryz.prog 133 [.vec .chunk l,.clo (.func 160) [] [.ptr 0 0,.ptr 2 0]] [(0,.box [i64 x]),(2,.box [i64 y])] (i64 (am (cQ x y) l 0)) [(0,.box [i64 x]),(2,.box [i64 y])]:=by
 refine eF Tryz.func133 17 ?_
 conv=>whnf
 refine aw.loopS aa (σ:=Nat) [0,1,7,8] (fun k=>[.vec .chunk l,.clo (.func 160) [] [.ptr 0 0,.ptr 2 0],i64 l.length,i64 k]) (fun _=>[(0,.box [i64 x]),(2,.box [i64 y])]) (fun k=>k ≤ l.length ∧ am (cQ x y) (l.drop k) k = am (cQ x y) l 0) (fun k=>l.length - k) 0 ⟨by omega,rfl⟩ ?_ ?_
 ·exact fD0
 ·intro k ⟨hk,he⟩
  by_cases hlt : k < l.length
  ·rw [bJ hlt] at he
   simp only [am] at he
   have hcl:=DS (elt .chunk l k) x y
   cases hP : (cQ x y) (elt .chunk l k) with
   | true =>
    rw [hP] at he hcl
    conv=>whnf
    repeat' (first|exact trivial|((first|refine kL ?_|(refine ⟨fun hb=>?_,fun hb=>?_⟩<;>(try simp only [nrm] at hb)<;>try exact kZ hb)|refine kE hcl [(0,0),(2,2)] rfl ?_|refine kF hcl [(0,0),(2,2)] rfl ?_|refine kV ?_)<;>(conv=>whnf))|refine kY ?_ ?_)
    rw [← he];rfl
   | false =>
    rw [hP] at he hcl
    conv=>whnf
    repeat' (first|exact trivial|((first|refine kL ?_|(refine ⟨fun hb=>?_,fun hb=>?_⟩<;>(try simp only [nrm] at hb)<;>try exact kZ hb)|refine kE hcl [(0,0),(2,2)] rfl ?_|refine kF hcl [(0,0),(2,2)] rfl ?_|refine kV ?_)<;>(conv=>whnf))|refine kY ?_ ?_)
    refine .to (k + 1) ⟨hlt,?_⟩ (by omega) ?_
    ·rw [← he];rfl
    ·exact fD0
  ·conv=>whnf
   repeat' (first|exact trivial|((first|(refine ⟨fun hb=>?_,fun hb=>?_⟩<;>(try simp only [nrm] at hb)<;>try exact kZ hb)|refine kV ?_)<;>(conv=>whnf))|refine kY ?_ ?_)
   have : k = l.length:=by omega
   subst this
   simp only [List.drop_length,am] at he
   rw [← he]
theorem oo (v : Viw) (x y : Int) (hn : v.chunks.length ≤ 2000000000000) : Api Tryz.prog 98 [bk v,i64 x,i64 y] (.tup [bz (aA v x y).1,bol (aA v x y).2]):=by
 have h1:=DU x y v.chunks hn
 have hlt:=fX (cQ x y) v.chunks 0
 unfold aA
 generalize am (cQ x y) v.chunks 0 = I at *
 by_cases hI : I < 0
 ·rw [if_pos hI]
  refine aF Tryz.func98 18 ?_
  conv=>whnf
  repeat' (first|exact trivial|((first|refine kL ?_|(refine ⟨fun hb=>?_,fun hb=>?_⟩<;>(try simp only [nrm] at hb)<;>try exact kZ hb)|refine kE h1 [(0,8),(2,10)] rfl ?_|refine kF h1 [(0,8),(2,10)] rfl ?_|refine kV ?_)<;>(conv=>whnf))|refine kY ?_ ?_)
 ·rw [if_neg hI]
  refine aF Tryz.func98 18 ?_
  conv=>whnf
  repeat' (first|exact trivial|((first|refine kL ?_|(refine ⟨fun hb=>?_,fun hb=>?_⟩<;>(try simp only [nrm] at hb)<;>try exact kZ hb)|refine kE h1 [(0,8),(2,10)] rfl ?_|refine kF h1 [(0,8),(2,10)] rfl ?_|refine kV ?_)<;>(conv=>whnf))|refine kY ?_ ?_)
theorem dp (l : List (El .u8)) (len : Nat) (ns : List (El .i64)) (n : Nat) (hn : n = ns.length) (hlen : len = l.length) (hns : ∀ z ∈ ns,okN z) (hl : l.length + ns.length * 10 + 10 ≤ 140737488355328) : Ev1 Tryz.prog 96 [.ptr 0 0,.own .i64 3 0 n (some n)] [(0,.box [.own .u8 1 0 len none]),(1,.row .u8 l),(3,.row .i64 ns)] (.tup []) [(0,.box [.own .u8 390001 0 (len + (an ns).length) none]),(390001,.row .u8 (l ++ an ns))]:=by
 subst hn
 subst hlen
 refine eF Tryz.func96 21 ?_
 conv=>whnf
 refine aw.loopS aa (σ:=Nat) [0,6,7,8] (fun k=>[.ptr 0 0,.own .i64 3 0 ns.length none,i64 ns.length,i64 k]) (fun k=>[(0,.box [.own .u8 350001 0 (l.length + (an (ns.take k)).length) none]),(350001,.row .u8 (l ++ an (ns.take k))),(3,.row .i64 ns)])
  (fun k=>k ≤ ns.length) (fun k=>ns.length - k) 0 (by omega) ?_ ?_
 ·conv=>whnf
  repeat' (first|exact trivial|((first|(refine ⟨fun hb=>?_,fun hb=>?_⟩<;>(try simp only [nrm] at hb)<;>try exact kZ hb)|refine kV ?_)<;>(conv=>whnf))|refine kY ?_ ?_)
  all_goals first|rfl|(simp [an];done)
 ·intro k hk
  by_cases hlt : k < ns.length
  ·have hz:=hns _ (ay (t:=.i64) hlt)
   have hz2:=hz.le
   have hpl:=aU (ns.take k)
   rw [List.length_take] at hpl
   conv=>whnf
   repeat' (first|exact trivial|((first|refine kL ?_|(refine ⟨fun hb=>?_,fun hb=>?_⟩<;>(try simp only [nrm] at hb)<;>try exact kZ hb)|(refine isE 77 ?_;refine kE (fW (l ++ an (ns.take k)) _ (elt .i64 ns k) (by rw [List.length_append]) hz.1 hz.2 (by rw [List.length_append];omega)) [(1,350001),(390001,350003)] rfl ?_)|(refine isD 77 ?_;refine kF (fW (l ++ an (ns.take k)) _ (elt .i64 ns k) (by rw [List.length_append]) hz.1 hz.2 (by rw [List.length_append];omega)) [(1,350001),(390001,350003)] rfl ?_)|(refine .inl ⟨qv hz.1 hz2,?_⟩)|refine kV ?_)<;>(conv=>whnf))|refine kY ?_ ?_)
   refine .to (k + 1) hlt (by omega) ?_
   have hpt:=lC hlt
   conv=>whnf
   repeat' (first|exact trivial|((first|(refine ⟨fun hb=>?_,fun hb=>?_⟩<;>(try simp only [nrm] at hb)<;>try exact kZ hb)|refine kV ?_)<;>(conv=>whnf))|refine kY ?_ ?_)
   all_goals (try rw [hpt])
   ·exact List.take_length
   ·rw [List.length_append];omega
   ·exact (List.take_of_length_le (by simp only [List.length_append];omega)).trans (List.append_assoc ..)
  ·obtain rfl : k = ns.length:=by omega
   rw [List.take_length]
   conv=>whnf
   repeat' (first|exact trivial|((first|(refine ⟨fun hb=>?_,fun hb=>?_⟩<;>(try simp only [nrm] at hb)<;>try exact kZ hb)|refine kV ?_)<;>(conv=>whnf))|refine kY ?_ ?_)
   all_goals first|rfl|exact List.take_length|(refine List.take_of_length_le ?_;first|exact Nat.le_refl _|(rw [List.length_append];exact Nat.le_refl _))
theorem wg (ns : List (El .i64)) (n : Nat) (hn : n = ns.length) (hns : ∀ z ∈ ns,okN z) (hl : ns.length * 10 + 10 ≤ 140737488355328) : Ev1 Tryz.prog 96 [.ptr 0 0,.own .i64 3 0 n (some n)] [(0,.box [.lit (.slice none 0 0)]),(3,.row .i64 ns)] (.tup []) [(0,.box [.own .u8 390001 0 (an ns).length none]),(390001,.row .u8 (an ns))]:=by
 subst hn
 refine eF Tryz.func96 21 ?_
 conv=>whnf
 refine aw.loopS aa (σ:=Nat) [0,6,7,8] (fun k=>[.ptr 0 0,.own .i64 3 0 ns.length none,i64 ns.length,i64 k]) (fun k=>[(0,.box [.own .u8 350001 0 (an (ns.take k)).length none]),(350001,.row .u8 (an (ns.take k))),(3,.row .i64 ns)])
  (fun k=>k ≤ ns.length) (fun k=>ns.length - k) 0 (by omega) ?_ ?_
 ·conv=>whnf
  repeat' (first|exact trivial|((first|(refine ⟨fun hb=>?_,fun hb=>?_⟩<;>(try simp only [nrm] at hb)<;>try exact kZ hb)|refine kV ?_)<;>(conv=>whnf))|refine kY ?_ ?_)
  all_goals first|rfl|(simp [an];done)
 ·intro k hk
  by_cases hlt : k < ns.length
  ·have hz:=hns _ (ay (t:=.i64) hlt)
   have hz2:=hz.le
   have hpl:=aU (ns.take k)
   rw [List.length_take] at hpl
   conv=>whnf
   repeat' (first|exact trivial|((first|refine kL ?_|(refine ⟨fun hb=>?_,fun hb=>?_⟩<;>(try simp only [nrm] at hb)<;>try exact kZ hb)|(refine isE 77 ?_;refine kE (fW (an (ns.take k)) _ (elt .i64 ns k) rfl hz.1 hz.2 (by omega)) [(1,350001),(390001,350003)] rfl ?_)|(refine isD 77 ?_;refine kF (fW (an (ns.take k)) _ (elt .i64 ns k) rfl hz.1 hz.2 (by omega)) [(1,350001),(390001,350003)] rfl ?_)|(refine .inl ⟨qv hz.1 hz2,?_⟩)|refine kV ?_)<;>(conv=>whnf))|refine kY ?_ ?_)
   refine .to (k + 1) hlt (by omega) ?_
   have hpt:=lC hlt
   conv=>whnf
   repeat' (first|exact trivial|((first|(refine ⟨fun hb=>?_,fun hb=>?_⟩<;>(try simp only [nrm] at hb)<;>try exact kZ hb)|refine kV ?_)<;>(conv=>whnf))|refine kY ?_ ?_)
   all_goals (try rw [hpt])
   ·exact List.take_length
   ·rw [List.length_append]
   ·exact List.take_of_length_le (by simp only [List.length_append];omega)
  ·obtain rfl : k = ns.length:=by omega
   rw [List.take_length]
   conv=>whnf
   repeat' (first|exact trivial|((first|(refine ⟨fun hb=>?_,fun hb=>?_⟩<;>(try simp only [nrm] at hb)<;>try exact kZ hb)|refine kV ?_)<;>(conv=>whnf))|refine kY ?_ ?_)
   all_goals first|rfl|exact List.take_length|(refine List.take_of_length_le ?_;first|exact Nat.le_refl _|(rw [List.length_append];exact Nat.le_refl _))
theorem Fj (l : List (El .u8)) (b : List (El .u8)) (len : Nat) (hlen : len = l.length) (hl : l.length + b.length + 30 ≤ 140737488355328) : Ev1 Tryz.prog 80 [.own .u8 1 0 len none,.vec .u8 b] [(1,.row .u8 l)] (.own .u8 390001 0 (len + (aj b.length ++ b).length) none) [(390001,.row .u8 (l ++ (aj b.length ++ b)))]:=by
 subst hlen
 have h1:=yq l b.length (by omega) (by omega)
 have hu:=eA 9 b.length
 have hu2 : (aj b.length).length ≤ 10:=hu
 refine eF Tryz.func80 10 ?_
 conv=>whnf
 repeat' (first|exact trivial|((first|refine kL ?_|(refine ⟨fun hb=>?_,fun hb=>?_⟩<;>(try simp only [nrm] at hb)<;>try exact kZ hb)|refine kE h1 [(1,1),(390001,350001)] rfl ?_|refine kF h1 [(1,1),(390001,350001)] rfl ?_|refine kV ?_)<;>(conv=>whnf))|refine kY ?_ ?_)
 rw [List.take_of_length_le (l:=l ++ aj b.length) (by rw [List.length_append];exact Nat.le_refl _),List.take_of_length_le (by simp only [List.length_append];omega),List.append_assoc]
theorem lH (l : List (El .u8)) (len : Nat) (bag : List (El .slot)) (hlen : len = l.length) (hok : ∀ s ∈ bag,(0 ≤ s.item ∧ s.item ≤ 255) ∧ okN s.n) (hl : l.length + bag.length * 20 + 100 ≤ 140737488355328) : Ev1 Tryz.prog 97 [.ptr 0 0,.vec .slot bag] [(0,.box [.own .u8 1 0 len none]),(1,.row .u8 l)] (.tup []) [(0,.box [.own .u8 390001 0 (len + (bag.flatMap a_).length) none]),(390001,.row .u8 (l ++ bag.flatMap a_))]:=by
 subst hlen
 refine eF Tryz.func97 19 ?_
 conv=>whnf
 refine aw.loopS aa (σ:=Nat) [0,6,7,8] (fun k=>[.ptr 0 0,.vec .slot bag,i64 bag.length,i64 k]) (fun k=>[(0,.box [.own .u8 350001 0 (l.length + ((bag.take k).flatMap a_).length) none]),(350001,.row .u8 (l ++ (bag.take k).flatMap a_))])
  (fun k=>k ≤ bag.length) (fun k=>bag.length - k) 0 (by omega) ?_ ?_
 ·conv=>whnf
  repeat' (first|exact trivial|((first|(refine ⟨fun hb=>?_,fun hb=>?_⟩<;>(try simp only [nrm] at hb)<;>try exact kZ hb)|refine kV ?_)<;>(conv=>whnf))|refine kY ?_ ?_)
  all_goals first|rfl|(rw [List.take_length];simp;done)
 ·intro k hk
  have hfl:=a8 a_ 20 (bag.take k) (fun s _=>dX s)
  rw [List.length_take] at hfl
  by_cases hlt : k < bag.length
  ·obtain ⟨⟨ha1,ha2⟩,hb1,hb2⟩:=hok _ (ay (t:=.slot) hlt)
   have hi1 : -9223372036854775808 ≤ (elt .slot bag k).item:=by omega
   have hi2 : (elt .slot bag k).item ≤ 9223372036854775807:=by omega
   have hok : ∀ z ∈ [(elt .slot bag k).item,(elt .slot bag k).n],okN z:=by
    intro z hz
    simp only [List.mem_cons,List.not_mem_nil,or_false] at hz
    rcases hz with rfl|rfl<;>(unfold okN;omega)
   have hput:=dp (l ++ (bag.take k).flatMap a_) _ [(elt .slot bag k).item,(elt .slot bag k).n] _ rfl (by rw [List.length_append]) hok (by simp only [List.length_append,List.length_cons,List.length_nil];omega)
   conv=>whnf
   repeat' (first|exact trivial|((first|refine kL ?_|(refine ⟨fun hb=>?_,fun hb=>?_⟩<;>(try simp only [nrm] at hb)<;>try exact kZ hb)|refine kE hput [(0,0),(1,350001),(3,200037),(390001,350003)] rfl ?_|refine kF hput [(0,0),(1,350001),(3,200037),(390001,350003)] rfl ?_|(refine .inl ⟨pV hi1 hi2,?_⟩)|refine kV ?_)<;>(conv=>whnf))|refine kY ?_ ?_)
   refine .to (k + 1) hlt (by omega) ?_
   conv=>whnf
   repeat' (first|exact trivial|((first|(refine ⟨fun hb=>?_,fun hb=>?_⟩<;>(try simp only [nrm] at hb)<;>try exact kZ hb)|refine kV ?_)<;>(conv=>whnf))|refine kY ?_ ?_)
   ·exact eO (t:=.slot) (f:=a_) l hlt rfl
   ·exact eP (t:=.slot) (f:=a_) l hlt rfl
  ·obtain rfl : k = bag.length:=by omega
   rw [List.take_length]
   conv=>whnf
   repeat' (first|exact trivial|((first|(refine ⟨fun hb=>?_,fun hb=>?_⟩<;>(try simp only [nrm] at hb)<;>try exact kZ hb)|refine kV ?_)<;>(conv=>whnf))|refine kY ?_ ?_)
   all_goals first|rfl|exact List.take_length|(refine List.take_of_length_le ?_;first|exact Nat.le_refl _|(rw [List.length_append];exact Nat.le_refl _))
open Go Go.RowKit Eng
theorem kI {α : Type} (a b : List α) : List.take (a.length + b.length) (a ++ b) = a ++ b:=by rw [← List.length_append];exact List.take_length
theorem gm {a : Int} (h : okN a) : ∀ z ∈ [a],okN z:=fun z hz=>by rw [List.mem_singleton.1 hz];exact h
theorem im {a b : Int} (h : okN a) (k : okN b) : ∀ z ∈ [a,b],okN z:=fun z hz=>by
 simp only [List.mem_cons,List.not_mem_nil,or_false] at hz
 rcases hz with rfl|rfl
 ·exact h
 ·exact k
theorem Cf {a b : Chunk} (hb : b.cells.length = 64) {i : Int} (h : i ∈ (turnS a b).1) : 0 ≤ i ∧ i < 64:=by
 unfold turnS at h
 split at h
 ·obtain ⟨k,rfl,k1,_⟩:=il.1 h
  omega
 ·cases h
theorem Cg {a b : Chunk} (hb : b.cells.length = 64) : (turnS a b).1.length ≤ 64:=by
 unfold turnS
 split
 ·have:=lD (a:=a.cells) (b:=b.cells) (k:=b.cells.length)
  show (co a.cells b.cells b.cells.length).length ≤ 64
  omega
 ·exact Nat.zero_le _
theorem tC (c : Chunk) (i : El .i64) : (cI c i).length ≤ 20:=aU _
theorem tD (l : List (El .u8)) (len : Nat) (was c : Chunk) (there : Bool) (hlen : len = l.length) (hw : there = true → ar was = true) (how : OkC was) (hg : ar c = true) (hl : l.length ≤ 10000000000) : Ev1 Tryz.prog 99 [.ptr 0 0,bz was,bol there,bz c] [(0,.box [.own .u8 1 0 len none]),(1,.row .u8 l)] (.tup []) [(0,.box [.own .u8 390001 0 (len + (an [c.x,c.y] ++ formY (was,there) c).length) none]),(390001,.row .u8 (l ++ (an [c.x,c.y] ++ formY (was,there) c)))]:=by
 subst hlen
 have hc:=fU hg
 have hb1:=BV c hc
 rw [hg,if_pos rfl,if_pos rfl] at hb1
 have hcl : c.cells.length = 64:=by have:=fT hg;omega
 have hGC:=bD hg
 have hat:=hGC.at
 have hBl:=hGC.le.1
 have g1:=dp l _ [c.x,c.y] _ rfl rfl (im (by unfold okN;omega) (by unfold okN;omega)) (by simp only [List.length_cons,List.length_nil];omega)
 have hP:=aU [c.x,c.y]
 generalize hP0 : an [c.x,c.y] = P at *
 simp only [List.length_cons,List.length_nil] at hP
 have hlP : (l ++ P).length ≤ 10000000020:=by rw [List.length_append];omega
 have gW1:=dp (l ++ P) _ [2] _ rfl (by rw [List.length_append]) (gm (by unfold okN;omega)) (by simp only [List.length_cons,List.length_nil];omega)
 have hP2:=aU [2]
 simp only [List.length_cons,List.length_nil] at hP2
 have gW2:=Fj (l ++ P ++ an [2]) (aK c) _ (by rw [List.length_append,List.length_append]) (by rw [List.length_append];omega)
 have eW : l ++ P ++ an [2] ++ (aj (aK c).length ++ aK c) = l ++ (P ++ bH c):=by unfold bH;simp only [List.append_assoc]
 have eWl : l.length + P.length + (an [2]).length + (aj (aK c).length ++ aK c).length = l.length + (P ++ bH c).length:=by unfold bH;simp only [List.length_append];omega
 rw [eW,eWl] at gW2
 have hU : (aj (aK c).length ++ aK c).length ≤ 6000:=by rw [List.length_append];have : (aj (aK c).length).length ≤ 10:=eA 9 _;omega
 generalize aj (aK c).length ++ aK c = U at *
 generalize aK c = B at *
 generalize hP2e : an [2] = P2 at *
 clear eW eWl hP2e
 cases there with
 | false =>
  have e : formY (was,false) c = bH c:=by unfold formY;dsimp only;rw [Bool.false_and,if_neg (by simp)]
  rw [e]
  clear hw how e
  generalize bH c = W at *
  refine eF Tryz.func99 80 ?_
  ((repeat (first|(with_reducible refine af fun N hN hE hT=>?_)|(with_reducible refine ah fun N hN hE hT=>?_)));(try with_reducible refine ai fun X Y hX hY=>?_);(conv=>whnf))
  repeat' (first|exact trivial|((first|((first|apply hT|apply hE|apply hN);clear hN hE hT)|((first|refine hX ?_|refine hY ?_);clear hX hY)|refine kL ?_|(refine ⟨fun hb=>?_,fun hb=>?_⟩<;>(try simp only [nrm] at hb)<;>try exact kZ hb)|refine kE g1 [(0,0),(1,1),(3,200039),(390001,350001)] rfl ?_ (hrd:=⟨rfl,rfl,rfl,trivial⟩)|refine kF g1 [(0,0),(1,1),(3,200039),(390001,350001)] rfl ?_ (hrd:=⟨rfl,rfl,rfl,trivial⟩)|refine kE gW1 [(0,0),(1,350001),(3,200059),(390001,350003)] rfl ?_ (hrd:=⟨rfl,rfl,rfl,trivial⟩)|refine kF gW1 [(0,0),(1,350001),(3,200059),(390001,350003)] rfl ?_ (hrd:=⟨rfl,rfl,rfl,trivial⟩)|refine kE gW2 [(1,350003),(390001,350005)] rfl ?_ (hrd:=⟨rfl,trivial⟩)|refine kF gW2 [(1,350003),(390001,350005)] rfl ?_ (hrd:=⟨rfl,trivial⟩)|refine kV ?_)<;>((repeat (first|(with_reducible refine af fun N hN hE hT=>?_)|(with_reducible refine ah fun N hN hE hT=>?_)));(try with_reducible refine ai fun X Y hX hY=>?_);(conv=>whnf)))|refine kY ?_ ?_)
  exact kI _ _
 | true =>
  have hw:=hw rfl
  have hwl : was.cells.length = 64:=by have:=fT hw;omega
  have htu:=Ab was c how hc (by omega) (by omega)
  have hTm : ∀ i : Int,i ∈ (turnS was c).1 → 0 ≤ i ∧ i < 64:=fun i hi=>Cf hcl hi
  have hTl:=Cg (a:=was) hcl
  have e : formY (was,true) c = if (turnS was c).2 then (if (turnS was c).1.length = 0 then an [0] else if (turnS was c).1.length ≤ 16 then e_ c (turnS was c).1 else bH c) else bH c:=by unfold formY;dsimp only;rw [Bool.true_and]
  rw [e]
  clear e
  generalize bH c = W at *
  generalize turnS was c = T at *
  obtain ⟨D,o⟩:=T
  dsimp only at *
  cases o with
  | false =>
   rw [if_neg (by simp)]
   refine eF Tryz.func99 80 ?_
   ((repeat (first|(with_reducible refine af fun N hN hE hT=>?_)|(with_reducible refine ah fun N hN hE hT=>?_)));(try with_reducible refine ai fun X Y hX hY=>?_);(conv=>whnf))
   repeat' (first|exact trivial|((first|((first|apply hT|apply hE|apply hN);clear hN hE hT)|((first|refine hX ?_|refine hY ?_);clear hX hY)|refine kL ?_|(refine ⟨fun hb=>?_,fun hb=>?_⟩<;>(try simp only [nrm] at hb)<;>try exact kZ hb)|refine kE g1 [(0,0),(1,1),(3,200039),(390001,350001)] rfl ?_ (hrd:=⟨rfl,rfl,rfl,trivial⟩)|refine kF g1 [(0,0),(1,1),(3,200039),(390001,350001)] rfl ?_ (hrd:=⟨rfl,rfl,rfl,trivial⟩)|refine kE gW1 [(0,0),(1,350001),(3,200059),(390001,350003)] rfl ?_ (hrd:=⟨rfl,rfl,rfl,trivial⟩)|refine kF gW1 [(0,0),(1,350001),(3,200059),(390001,350003)] rfl ?_ (hrd:=⟨rfl,rfl,rfl,trivial⟩)|refine kE gW2 [(1,350003),(390001,350005)] rfl ?_ (hrd:=⟨rfl,trivial⟩)|refine kF gW2 [(1,350003),(390001,350005)] rfl ?_ (hrd:=⟨rfl,trivial⟩)|refine kV ?_)<;>((repeat (first|(with_reducible refine af fun N hN hE hT=>?_)|(with_reducible refine ah fun N hN hE hT=>?_)));(try with_reducible refine ai fun X Y hX hY=>?_);(conv=>whnf)))|refine kY ?_ ?_)
   exact kI _ _
  | true =>
   rw [if_pos rfl]
   by_cases c0 : D.length = 0
   ·rw [if_pos c0]
    have g2:=dp (l ++ P) _ [0] _ rfl (by rw [List.length_append]) (gm (by unfold okN;omega)) (by simp only [List.length_cons,List.length_nil];omega)
    refine eF Tryz.func99 80 ?_
    ((repeat (first|(with_reducible refine af fun N hN hE hT=>?_)|(with_reducible refine ah fun N hN hE hT=>?_)));(try with_reducible refine ai fun X Y hX hY=>?_);(conv=>whnf))
    repeat' (first|exact trivial|((first|((first|apply hT|apply hE|apply hN);clear hN hE hT)|((first|refine hX ?_|refine hY ?_);clear hX hY)|refine kL ?_|(refine ⟨fun hb=>?_,fun hb=>?_⟩<;>(try simp only [nrm] at hb)<;>try exact kZ hb)|refine kE g1 [(0,0),(1,1),(3,200039),(390001,350001)] rfl ?_ (hrd:=⟨rfl,rfl,rfl,trivial⟩)|refine kF g1 [(0,0),(1,1),(3,200039),(390001,350001)] rfl ?_ (hrd:=⟨rfl,rfl,rfl,trivial⟩)|refine kE g2 [(0,0),(1,350001),(3,200107),(390001,350003)] rfl ?_ (hrd:=⟨rfl,rfl,rfl,trivial⟩)|refine kF g2 [(0,0),(1,350001),(3,200107),(390001,350003)] rfl ?_ (hrd:=⟨rfl,rfl,rfl,trivial⟩)|refine kV ?_)<;>((repeat (first|(with_reducible refine af fun N hN hE hT=>?_)|(with_reducible refine ah fun N hN hE hT=>?_)));(try with_reducible refine ai fun X Y hX hY=>?_);(conv=>whnf)))|refine kY ?_ ?_)
    all_goals first|(simp only [List.length_append];omega)|(rw [← List.append_assoc];exact List.take_of_length_le (by simp only [List.length_append];omega))
   ·rw [if_neg c0]
    by_cases c16 : D.length ≤ 16
    ·rw [if_pos c16]
     have g2:=dp (l ++ P) _ [1,(D.length : Int)] _ rfl (by rw [List.length_append]) (im (by unfold okN;omega) (by unfold okN;omega)) (by simp only [List.length_cons,List.length_nil];omega)
     have hP3:=aU [1,(D.length : Int)]
     simp only [List.length_cons,List.length_nil] at hP3
     unfold e_
     generalize an [1,(D.length : Int)] = P3 at *
     have hQl : (l ++ P ++ P3).length ≤ 10000000060:=by rw [List.length_append];omega
     have hQe : l.length + P.length + P3.length = (l ++ P ++ P3).length:=by simp only [List.length_append]
     rw [hQe] at g2
     have hend : l ++ (P ++ (P3 ++ D.flatMap (cI c))) = l ++ P ++ P3 ++ D.flatMap (cI c):=by simp only [List.append_assoc]
     have hendl : l.length + (P ++ (P3 ++ D.flatMap (cI c))).length = (l ++ P ++ P3).length + (D.flatMap (cI c)).length:=by simp only [List.length_append];omega
     rw [hend,hendl]
     clear hend hendl hQe
     generalize hQ : l ++ P ++ P3 = Q at *
     refine eF Tryz.func99 80 ?_
     ((repeat (first|(with_reducible refine af fun N hN hE hT=>?_)|(with_reducible refine ah fun N hN hE hT=>?_)));(try with_reducible refine ai fun X Y hX hY=>?_);(conv=>whnf))
     repeat' (first|exact trivial|((first|((first|apply hT|apply hE|apply hN);clear hN hE hT)|((first|refine hX ?_|refine hY ?_);clear hX hY)|refine kL ?_|(refine ⟨fun hb=>?_,fun hb=>?_⟩<;>(try simp only [nrm] at hb)<;>try exact kZ hb)|refine kE g1 [(0,0),(1,1),(3,200039),(390001,350001)] rfl ?_ (hrd:=⟨rfl,rfl,rfl,trivial⟩)|refine kF g1 [(0,0),(1,1),(3,200039),(390001,350001)] rfl ?_ (hrd:=⟨rfl,rfl,rfl,trivial⟩)|refine kE g2 [(0,0),(1,350001),(3,200131),(390001,350003)] rfl ?_ (hrd:=⟨rfl,rfl,rfl,trivial⟩)|refine kF g2 [(0,0),(1,350001),(3,200131),(390001,350003)] rfl ?_ (hrd:=⟨rfl,rfl,rfl,trivial⟩)|refine kV ?_)<;>((repeat (first|(with_reducible refine af fun N hN hE hT=>?_)|(with_reducible refine ah fun N hN hE hT=>?_)));(try with_reducible refine ai fun X Y hX hY=>?_);(conv=>whnf)))|refine kY ?_ ?_)
     clear g1 g2 htu hb1 gW1 gW2
     refine aw.loopS aa (σ:=Nat) [0,7,67,68,69] (fun k=>[.ptr 0 0,.ptr 200014 0,.vec .i64 D,i64 D.length,i64 k]) (fun k=>[(0,.box [.own .u8 350005 0 (Q.length + ((D.take k).flatMap (cI c)).length) none]),(350005,.row .u8 (Q ++ (D.take k).flatMap (cI c))),(200014,.box (bj c))])
      (fun k=>k ≤ D.length) (fun k=>D.length - k) 0 (by omega) ?_ ?_
     ·conv=>whnf
      repeat' (first|exact trivial|((first|((first|apply hT|apply hE|apply hN);clear hN hE hT)|((first|refine hX ?_|refine hY ?_);clear hX hY)|(refine ⟨fun hb=>?_,fun hb=>?_⟩<;>(try simp only [nrm] at hb)<;>try exact kZ hb)|refine kV ?_)<;>((repeat (first|(with_reducible refine af fun N hN hE hT=>?_)|(with_reducible refine ah fun N hN hE hT=>?_)));(try with_reducible refine ai fun X Y hX hY=>?_);(conv=>whnf)))|refine kY ?_ ?_)
      all_goals first|rfl|(rw [List.take_length];simp;done)
     ·intro k hk
      have hfl:=a8 (cI c) 20 (D.take k) (fun s _=>tC c s)
      rw [List.length_take] at hfl
      by_cases hlt : k < D.length
      ·obtain ⟨i,hi⟩ : ∃ i : Int,elt .i64 D (k : Int).toNat = i:=⟨_,rfl⟩
       have hi2 : elt .i64 D k = i:=hi
       obtain ⟨hm1,hm2⟩:=hTm i (by rw [← hi2];exact ay (t:=.i64) hlt)
       obtain ⟨E,hE⟩ : ∃ E : Int,elt .u8 c.cells i.toNat = E:=⟨_,rfl⟩
       have hEb : 0 ≤ E ∧ E ≤ 255:=by rw [← hE];exact hc.cells _ (ay (t:=.u8) (by omega))
       have hi3 : -9223372036854775808 ≤ E:=by omega
       have hi4 : E ≤ 9223372036854775807:=by omega
       have hcy : cI c i = an [i,E]:=by unfold cI;rw [hE]
       have g3:=dp (Q ++ (D.take k).flatMap (cI c)) _ [i,E] _ rfl (by rw [List.length_append]) (im (by unfold okN;omega) (by unfold okN;omega)) (by simp only [List.length_append,List.length_cons,List.length_nil];omega)
       conv=>whnf
       repeat' (first|exact trivial|((first|((first|apply hT|apply hE|apply hN);clear hN hE hT)|((first|refine hX ?_|refine hY ?_);clear hX hY)|refine kL ?_|(refine ⟨fun hb=>?_,fun hb=>?_⟩<;>(try simp only [nrm] at hb)<;>try exact kZ hb)|refine kE g3 [(0,0),(1,350005),(3,200163),(390001,350007)] rfl ?_ (hrd:=⟨rfl,rfl,rfl,trivial⟩)|refine kF g3 [(0,0),(1,350005),(3,200163),(390001,350007)] rfl ?_ (hrd:=⟨rfl,rfl,rfl,trivial⟩)|(rw [hi])|(rw [hE])|(refine .inl ⟨pV hi3 hi4,?_⟩)|refine kV ?_)<;>((repeat (first|(with_reducible refine af fun N hN hE hT=>?_)|(with_reducible refine ah fun N hN hE hT=>?_)));(try with_reducible refine ai fun X Y hX hY=>?_);(conv=>whnf)))|refine kY ?_ ?_)
       refine .to (k + 1) hlt (by omega) ?_
       conv=>whnf
       repeat' (first|exact trivial|((first|((first|apply hT|apply hE|apply hN);clear hN hE hT)|((first|refine hX ?_|refine hY ?_);clear hX hY)|(refine ⟨fun hb=>?_,fun hb=>?_⟩<;>(try simp only [nrm] at hb)<;>try exact kZ hb)|refine kV ?_)<;>((repeat (first|(with_reducible refine af fun N hN hE hT=>?_)|(with_reducible refine ah fun N hN hE hT=>?_)));(try with_reducible refine ai fun X Y hX hY=>?_);(conv=>whnf)))|refine kY ?_ ?_)
       ·exact eO (t:=.i64) (f:=cI c) Q hlt (by rw [hi2,hcy])
       ·exact eP (t:=.i64) (f:=cI c) Q hlt (by rw [hi2,hcy])
      ·obtain rfl : k = D.length:=by omega
       rw [List.take_length]
       conv=>whnf
       repeat' (first|exact trivial|((first|((first|apply hT|apply hE|apply hN);clear hN hE hT)|((first|refine hX ?_|refine hY ?_);clear hX hY)|(refine ⟨fun hb=>?_,fun hb=>?_⟩<;>(try simp only [nrm] at hb)<;>try exact kZ hb)|refine kV ?_)<;>((repeat (first|(with_reducible refine af fun N hN hE hT=>?_)|(with_reducible refine ah fun N hN hE hT=>?_)));(try with_reducible refine ai fun X Y hX hY=>?_);(conv=>whnf)))|refine kY ?_ ?_)
       all_goals first|rfl|exact List.take_length|(rw [← List.length_append];exact List.take_length)
    ·rw [if_neg c16]
     refine eF Tryz.func99 80 ?_
     ((repeat (first|(with_reducible refine af fun N hN hE hT=>?_)|(with_reducible refine ah fun N hN hE hT=>?_)));(try with_reducible refine ai fun X Y hX hY=>?_);(conv=>whnf))
     repeat' (first|exact trivial|((first|((first|apply hT|apply hE|apply hN);clear hN hE hT)|((first|refine hX ?_|refine hY ?_);clear hX hY)|refine kL ?_|(refine ⟨fun hb=>?_,fun hb=>?_⟩<;>(try simp only [nrm] at hb)<;>try exact kZ hb)|refine kE g1 [(0,0),(1,1),(3,200039),(390001,350001)] rfl ?_ (hrd:=⟨rfl,rfl,rfl,trivial⟩)|refine kF g1 [(0,0),(1,1),(3,200039),(390001,350001)] rfl ?_ (hrd:=⟨rfl,rfl,rfl,trivial⟩)|refine kE gW1 [(0,0),(1,350001),(3,200059),(390001,350003)] rfl ?_ (hrd:=⟨rfl,rfl,rfl,trivial⟩)|refine kF gW1 [(0,0),(1,350001),(3,200059),(390001,350003)] rfl ?_ (hrd:=⟨rfl,rfl,rfl,trivial⟩)|refine kE gW2 [(1,350003),(390001,350005)] rfl ?_ (hrd:=⟨rfl,trivial⟩)|refine kF gW2 [(1,350003),(390001,350005)] rfl ?_ (hrd:=⟨rfl,trivial⟩)|refine kV ?_)<;>((repeat (first|(with_reducible refine af fun N hN hE hT=>?_)|(with_reducible refine ah fun N hN hE hT=>?_)));(try with_reducible refine ai fun X Y hX hY=>?_);(conv=>whnf)))|refine kY ?_ ?_)
     exact kI _ _
open Go Go.RowKit Eng
theorem wh {a b c d : Int} (h1 : okN a) (h2 : okN b) (h3 : okN c) (h4 : okN d) : ∀ z ∈ [a,b,c,d],okN z:=fun z hz=>by
 simp only [List.mem_cons,List.not_mem_nil,or_false] at hz
 rcases hz with rfl|rfl|rfl|rfl<;>assumption
theorem oq {a b c : Int} (h1 : okN a) (h2 : okN b) (h3 : okN c) : ∀ z ∈ [a,b,c],okN z:=fun z hz=>by
 simp only [List.mem_cons,List.not_mem_nil,or_false] at hz
 rcases hz with rfl|rfl|rfl<;>assumption
theorem DV {f : Chunk × Bool} {c : Chunk} (h : (aK c).length ≤ 5000) : (formY f c).length ≤ 5100:=by
 have h2 : (an [2]).length ≤ 10:=aU [2]
 have h0 : (an [0]).length ≤ 10:=aU [0]
 have hW : (bH c).length ≤ 5100:=by
  have : (aj (aK c).length).length ≤ 10:=eA 9 _
  unfold bH
  simp only [List.length_append]
  omega
 unfold formY
 split
 ·split
  ·omega
  ·split
   ·rename_i c16
    have h3:=aU [1,((turnS f.1 c).1.length : Int)]
    have h4:=a8 (cI c) 20 (turnS f.1 c).1 (fun i _=>tC c i)
    simp only [List.length_cons,List.length_nil] at h3
    unfold e_
    rw [List.length_append]
    omega
   ·exact hW
 ·exact hW
theorem io {v : Viw} {c : Chunk} (h : ar c = true) : (chunkY v c).length ≤ 5200:=by
 have h1:=DV (f:=aA v c.x c.y) (bD h).le.1
 have h2:=aU [c.x,c.y]
 simp only [List.length_cons,List.length_nil] at h2
 unfold chunkY
 rw [List.length_append]
 omega
theorem lI (s : El .seen) : (bS s).length ≤ 30:=aU _
theorem dY : OkC bf:=⟨by simp [bf],by simp [bf],by simp [bf],by decide,by decide,by decide⟩
theorem eS {v : Viw} (hb : baseB v = true) {x y : Int} : ((aA v x y).2 = true → ar (aA v x y).1 = true) ∧ OkC (aA v x y).1:=by
 cases hf : (aA v x y).2 with
 | true =>
  have h:=jM hb _ (gi hf).1
  exact ⟨fun _=>h,fU h⟩
 | false =>
  refine ⟨fun h=>Bool.noConfusion h,?_⟩
  have e : (aA v x y).1 = bf:=by
   unfold aA at hf ⊢
   split at hf
   ·rename_i h;rw [if_pos h]
   ·cases hf
  rw [e];exact dY
noncomputable def makeE (v n : Viw) : List (El .u8) × Int:=(if makeB v n then makeY v n else [],if makeB v n then 0 else 113)
theorem qk (v n : Viw) (hv : OkV v) (hn : OkV n) : Api Tryz.prog 37 [bk v,bk n] (.tup [.vec .u8 (makeE v n).1,i64 (makeE v n).2]):=by
 have hr:=mO n hn
 have hb1:=lG v hv
 unfold makeE makeB
 cases hR : aV n with
 | false =>
  rw [hR] at hr
  rw [Bool.false_and,if_neg (by simp),if_neg (by simp)]
  refine aF Tryz.func37 108 ?_
  exact fD0
 | true =>
 rw [hR] at hr
 cases hB : baseB v with
 | false =>
  rw [hB] at hb1
  rw [Bool.true_and,if_neg (by simp),if_neg (by simp)]
  refine aF Tryz.func37 108 ?_
  exact fD0
 | true =>
 rw [hB] at hb1
 rw [Bool.true_and,if_pos rfl,if_pos rfl]
 have hP:=dN hR
 have p1:=hP.tick;have p2:=hP.id;have p3:=hP.x;have p4:=hP.y;have p5:=hP.w;have p6:=hP.nc;have p7:=hP.no;have p8:=hP.bag
 have p9 : n.me.offer.length ≤ 8:=by
  rcases hP.off with ⟨_,h,_⟩|⟨_,h⟩
  ·rw [h];simp
  ·omega
 have hag : 0 ≤ agI n.me.agrees ∧ agI n.me.agrees ≤ 1:=by unfold agI;split<;>omega
 have g1:=wg [n.tick,n.me.id,n.me.x,n.me.y] _ rfl (wh (by unfold okN;omega) (by unfold okN;omega) (by unfold okN;omega) (by unfold okN;omega)) (by simp only [List.length_cons,List.length_nil];omega)
 have a1:=aU [n.tick,n.me.id,n.me.x,n.me.y]
 simp only [List.length_cons,List.length_nil] at a1
 have hY : makeY v n = an [n.tick,n.me.id,n.me.x,n.me.y] ++ n.me.bag.flatMap a_ ++ an [n.me.wth + 1,agI n.me.agrees] ++ n.me.offer.flatMap a_ ++ an [(n.chunks.length : Int)] ++ n.chunks.flatMap (chunkY v) ++ an [(n.others.length : Int)] ++ n.others.flatMap bS:=rfl
 rw [hY]
 clear hY
 generalize an [n.tick,n.me.id,n.me.x,n.me.y] = A1 at *
 have g2:=lH A1 A1.length n.me.bag rfl (fun s hs=>⟨(hP.bagS s hs).1,by have:=(hP.bagS s hs).2;unfold okN;omega⟩) (by omega)
 have b1:=a8 a_ 20 n.me.bag (fun s _=>dX s)
 generalize n.me.bag.flatMap a_ = B1 at *
 have g3:=dp (A1 ++ B1) _ [n.me.wth + 1,agI n.me.agrees] _ rfl (by rw [List.length_append]) (im (by unfold okN;omega) (by unfold okN;omega)) (by simp only [List.length_cons,List.length_nil,List.length_append];omega)
 have a2:=aU [n.me.wth + 1,agI n.me.agrees]
 simp only [List.length_cons,List.length_nil] at a2
 generalize an [n.me.wth + 1,agI n.me.agrees] = A2 at *
 have g4:=lH (A1 ++ B1 ++ A2) _ n.me.offer (by rw [List.length_append,List.length_append]) (fun s hs=>⟨(hP.offS s hs).1,by have:=(hP.offS s hs).2;unfold okN;omega⟩) (by simp only [List.length_append];omega)
 have b2:=a8 a_ 20 n.me.offer (fun s _=>dX s)
 generalize n.me.offer.flatMap a_ = B2 at *
 have g5:=dp (A1 ++ B1 ++ A2 ++ B2) _ [(n.chunks.length : Int)] _ rfl (by rw [List.length_append,List.length_append,List.length_append]) (gm (by unfold okN;omega)) (by simp only [List.length_cons,List.length_nil,List.length_append];omega)
 have a3:=aU [(n.chunks.length : Int)]
 simp only [List.length_cons,List.length_nil] at a3
 generalize an [(n.chunks.length : Int)] = A3 at *
 have hQe : A1.length + B1.length + A2.length + B2.length + A3.length = (A1 ++ B1 ++ A2 ++ B2 ++ A3).length:=by simp only [List.length_append]
 have hQl : (A1 ++ B1 ++ A2 ++ B2 ++ A3).length ≤ 1000:=by simp only [List.length_append];omega
 rw [hQe] at g5
 generalize hQ : A1 ++ B1 ++ A2 ++ B2 ++ A3 = Q at *
 clear hQ hQe
 have hcl : (n.chunks.flatMap (chunkY v)).length ≤ n.chunks.length * 5200:=a8 (chunkY v) 5200 n.chunks (fun c hc=>io (hP.chunks c hc))
 have g6:=dp (Q ++ n.chunks.flatMap (chunkY v)) _ [(n.others.length : Int)] _ rfl (by rw [List.length_append]) (gm (by unfold okN;omega)) (by simp only [List.length_cons,List.length_nil,List.length_append];omega)
 have a4:=aU [(n.others.length : Int)]
 simp only [List.length_cons,List.length_nil] at a4
 have hRl : (Q ++ n.chunks.flatMap (chunkY v) ++ an [(n.others.length : Int)]).length ≤ 1000000:=by simp only [List.length_append];omega
 have hRe : Q.length + (n.chunks.flatMap (chunkY v)).length + (an [(n.others.length : Int)]).length = (Q ++ n.chunks.flatMap (chunkY v) ++ an [(n.others.length : Int)]).length:=by simp only [List.length_append]
 rw [hRe] at g6
 generalize hRR : Q ++ n.chunks.flatMap (chunkY v) ++ an [(n.others.length : Int)] = R at *
 clear hRR hRe a4
 have hax : (n.me.agrees = true ∧ agI n.me.agrees = 1) ∨ (n.me.agrees = false ∧ agI n.me.agrees = 0):=by unfold agI;cases n.me.agrees<;>simp
 rcases hax with ⟨hx,hy⟩|⟨hx,hy⟩
 all_goals
  rw [hy] at g3
  refine aF Tryz.func37 108 ?_
  ((repeat (first|(with_reducible refine af fun N hN hE hT=>?_)|(with_reducible refine ah fun N hN hE hT=>?_)));(try with_reducible refine ai fun X Y hX hY=>?_);(conv=>whnf))
  repeat' (first|exact trivial|((first|((first|apply hT|apply hE|apply hN);clear hN hE hT)|((first|refine hX ?_|refine hY ?_);clear hX hY)|refine kL ?_|(refine ⟨fun hb=>?_,fun hb=>?_⟩<;>(try simp only [nrm] at hb)<;>try exact kZ hb)|refine kE g1 [(0,48),(3,73),(390001,150001)] rfl ?_ (hrd:=⟨rfl,rfl,trivial⟩)|refine kF g1 [(0,48),(3,73),(390001,150001)] rfl ?_ (hrd:=⟨rfl,rfl,trivial⟩)|refine kE g2 [(0,48),(1,150001),(390001,150003)] rfl ?_ (hrd:=⟨rfl,rfl,trivial⟩)|refine kF g2 [(0,48),(1,150001),(390001,150003)] rfl ?_ (hrd:=⟨rfl,rfl,trivial⟩)|refine kE g3 [(0,48),(1,150003),(3,99),(390001,150005)] rfl ?_ (hrd:=⟨rfl,rfl,rfl,trivial⟩)|refine kF g3 [(0,48),(1,150003),(3,99),(390001,150005)] rfl ?_ (hrd:=⟨rfl,rfl,rfl,trivial⟩)|refine kE g4 [(0,48),(1,150005),(390001,150007)] rfl ?_ (hrd:=⟨rfl,rfl,trivial⟩)|refine kF g4 [(0,48),(1,150005),(390001,150007)] rfl ?_ (hrd:=⟨rfl,rfl,trivial⟩)|refine kE g5 [(0,48),(1,150007),(3,119),(390001,150009)] rfl ?_ (hrd:=⟨rfl,rfl,rfl,trivial⟩)|refine kF g5 [(0,48),(1,150007),(3,119),(390001,150009)] rfl ?_ (hrd:=⟨rfl,rfl,rfl,trivial⟩)|refine kV ?_)<;>((repeat (first|(with_reducible refine af fun N hN hE hT=>?_)|(with_reducible refine ah fun N hN hE hT=>?_)));(try with_reducible refine ai fun X Y hX hY=>?_);(conv=>whnf)))|refine kY ?_ ?_)
  clear g1 g2 g3 g4 g5 hr hb1 hx hy
  refine aw.loopS aa (σ:=Nat) [2,3,6,62,63,64] (fun k=>[.ptr 4 0,.ptr 6 0,.ptr 48 0,.vec .chunk n.chunks,i64 n.chunks.length,i64 k]) (fun k=>[(4,.box (bA v)),(6,.box (bA n)),(48,.box [.own .u8 150011 0 (Q.length + ((n.chunks.take k).flatMap (chunkY v)).length) none]),(150011,.row .u8 (Q ++ (n.chunks.take k).flatMap (chunkY v)))])
   (fun k=>k ≤ n.chunks.length) (fun k=>n.chunks.length - k) 0 (by omega) ?_ ?_
  ·conv=>whnf
   repeat' (first|exact trivial|((first|((first|apply hT|apply hE|apply hN);clear hN hE hT)|((first|refine hX ?_|refine hY ?_);clear hX hY)|(refine ⟨fun hb=>?_,fun hb=>?_⟩<;>(try simp only [nrm] at hb)<;>try exact kZ hb)|refine kV ?_)<;>((repeat (first|(with_reducible refine af fun N hN hE hT=>?_)|(with_reducible refine ah fun N hN hE hT=>?_)));(try with_reducible refine ai fun X Y hX hY=>?_);(conv=>whnf)))|refine kY ?_ ?_)
   all_goals first|rfl|(rw [List.take_length];simp;done)
  ·intro k hk
   have hfl:=a8 (chunkY v) 5200 (n.chunks.take k) (fun c hc=>io (hP.chunks c (List.mem_of_mem_take hc)))
   rw [List.length_take] at hfl
   by_cases hlt : k < n.chunks.length
   ·have hcr:=hP.chunks _ (ay (t:=.chunk) hlt)
    obtain ⟨f1,f2⟩:=eS hB (x:=(elt .chunk n.chunks k).x) (y:=(elt .chunk n.chunks k).y)
    have hfd:=oo v (elt .chunk n.chunks k).x (elt .chunk n.chunks k).y (by have:=hv.nc;omega)
    have hck : chunkY v (elt .chunk n.chunks k) = an [(elt .chunk n.chunks k).x,(elt .chunk n.chunks k).y] ++ formY (aA v (elt .chunk n.chunks k).x (elt .chunk n.chunks k).y) (elt .chunk n.chunks k):=rfl
    generalize aA v (elt .chunk n.chunks k).x (elt .chunk n.chunks k).y = F at *
    obtain ⟨was,there⟩:=F
    dsimp only at *
    have hs:=tD (Q ++ (n.chunks.take k).flatMap (chunkY v)) _ was (elt .chunk n.chunks k) there (by rw [List.length_append]) f1 f2 hcr (by simp only [List.length_append];omega)
    rw [← hck] at hs
    conv=>whnf
    repeat' (first|exact trivial|((first|((first|apply hT|apply hE|apply hN);clear hN hE hT)|((first|refine hX ?_|refine hY ?_);clear hX hY)|refine kL ?_|(refine ⟨fun hb=>?_,fun hb=>?_⟩<;>(try simp only [nrm] at hb)<;>try exact kZ hb)|refine kE hs [(0,48),(1,150011),(390001,150013)] rfl ?_ (hrd:=⟨rfl,rfl,trivial⟩)|refine kF hs [(0,48),(1,150011),(390001,150013)] rfl ?_ (hrd:=⟨rfl,rfl,trivial⟩)|refine kV ?_)<;>((repeat (first|(with_reducible refine af fun N hN hE hT=>?_)|(with_reducible refine ah fun N hN hE hT=>?_)));(try with_reducible refine ai fun X Y hX hY=>?_);(conv=>whnf)))|refine kY ?_ ?_)
    refine .to (k + 1) hlt (by omega) ?_
    conv=>whnf
    repeat' (first|exact trivial|((first|((first|apply hT|apply hE|apply hN);clear hN hE hT)|((first|refine hX ?_|refine hY ?_);clear hX hY)|(refine ⟨fun hb=>?_,fun hb=>?_⟩<;>(try simp only [nrm] at hb)<;>try exact kZ hb)|refine kV ?_)<;>((repeat (first|(with_reducible refine af fun N hN hE hT=>?_)|(with_reducible refine ah fun N hN hE hT=>?_)));(try with_reducible refine ai fun X Y hX hY=>?_);(conv=>whnf)))|refine kY ?_ ?_)
    ·exact eO (t:=.chunk) (f:=chunkY v) Q hlt rfl
    ·exact eP (t:=.chunk) (f:=chunkY v) Q hlt rfl
   ·obtain rfl : k = n.chunks.length:=by omega
    rw [List.take_length] at hfl ⊢
    conv=>whnf
    repeat' (first|exact trivial|((first|((first|apply hT|apply hE|apply hN);clear hN hE hT)|((first|refine hX ?_|refine hY ?_);clear hX hY)|refine kL ?_|(refine ⟨fun hb=>?_,fun hb=>?_⟩<;>(try simp only [nrm] at hb)<;>try exact kZ hb)|refine kE g6 [(0,48),(1,150011),(3,175),(390001,150015)] rfl ?_ (hrd:=⟨rfl,rfl,rfl,trivial⟩)|refine kF g6 [(0,48),(1,150011),(3,175),(390001,150015)] rfl ?_ (hrd:=⟨rfl,rfl,rfl,trivial⟩)|refine kV ?_)<;>((repeat (first|(with_reducible refine af fun N hN hE hT=>?_)|(with_reducible refine ah fun N hN hE hT=>?_)));(try with_reducible refine ai fun X Y hX hY=>?_);(conv=>whnf)))|refine kY ?_ ?_)
    clear g6
    refine aw.loopS aa (σ:=Nat) [6,90,91,92] (fun k=>[.ptr 48 0,.vec .seen n.others,i64 n.others.length,i64 k]) (fun k=>[(48,.box [.own .u8 150017 0 (R.length + ((n.others.take k).flatMap bS).length) none]),(150017,.row .u8 (R ++ (n.others.take k).flatMap bS))])
     (fun k=>k ≤ n.others.length) (fun k=>n.others.length - k) 0 (by omega) ?_ ?_
    ·conv=>whnf
     repeat' (first|exact trivial|((first|((first|apply hT|apply hE|apply hN);clear hN hE hT)|((first|refine hX ?_|refine hY ?_);clear hX hY)|(refine ⟨fun hb=>?_,fun hb=>?_⟩<;>(try simp only [nrm] at hb)<;>try exact kZ hb)|refine kV ?_)<;>((repeat (first|(with_reducible refine af fun N hN hE hT=>?_)|(with_reducible refine ah fun N hN hE hT=>?_)));(try with_reducible refine ai fun X Y hX hY=>?_);(conv=>whnf)))|refine kY ?_ ?_)
     all_goals first|rfl|(rw [List.take_length];simp;done)
    ·intro j hj
     have hf2:=a8 bS 30 (n.others.take j) (fun s _=>lI s)
     rw [List.length_take] at hf2
     by_cases hlj : j < n.others.length
     ·have ho:=hP.others _ (ay (t:=.seen) hlj)
      have hs:=dp (R ++ (n.others.take j).flatMap bS) _ [(elt .seen n.others j).id,(elt .seen n.others j).x,(elt .seen n.others j).y] _ rfl (by rw [List.length_append]) (oq (by unfold okN;omega) (by unfold okN;omega) (by unfold okN;omega)) (by simp only [List.length_append,List.length_cons,List.length_nil];omega)
      conv=>whnf
      repeat' (first|exact trivial|((first|((first|apply hT|apply hE|apply hN);clear hN hE hT)|((first|refine hX ?_|refine hY ?_);clear hX hY)|refine kL ?_|(refine ⟨fun hb=>?_,fun hb=>?_⟩<;>(try simp only [nrm] at hb)<;>try exact kZ hb)|refine kE hs [(0,48),(1,150017),(3,207),(390001,150019)] rfl ?_ (hrd:=⟨rfl,rfl,rfl,trivial⟩)|refine kF hs [(0,48),(1,150017),(3,207),(390001,150019)] rfl ?_ (hrd:=⟨rfl,rfl,rfl,trivial⟩)|refine kV ?_)<;>((repeat (first|(with_reducible refine af fun N hN hE hT=>?_)|(with_reducible refine ah fun N hN hE hT=>?_)));(try with_reducible refine ai fun X Y hX hY=>?_);(conv=>whnf)))|refine kY ?_ ?_)
      refine .to (j + 1) hlj (by omega) ?_
      conv=>whnf
      repeat' (first|exact trivial|((first|((first|apply hT|apply hE|apply hN);clear hN hE hT)|((first|refine hX ?_|refine hY ?_);clear hX hY)|(refine ⟨fun hb=>?_,fun hb=>?_⟩<;>(try simp only [nrm] at hb)<;>try exact kZ hb)|refine kV ?_)<;>((repeat (first|(with_reducible refine af fun N hN hE hT=>?_)|(with_reducible refine ah fun N hN hE hT=>?_)));(try with_reducible refine ai fun X Y hX hY=>?_);(conv=>whnf)))|refine kY ?_ ?_)
      ·exact eO (t:=.seen) (f:=bS) R hlj rfl
      ·exact eP (t:=.seen) (f:=bS) R hlj rfl
     ·obtain rfl : j = n.others.length:=by omega
      rw [List.take_length]
      conv=>whnf
      repeat' (first|exact trivial|((first|((first|apply hT|apply hE|apply hN);clear hN hE hT)|((first|refine hX ?_|refine hY ?_);clear hX hY)|(refine ⟨fun hb=>?_,fun hb=>?_⟩<;>(try simp only [nrm] at hb)<;>try exact kZ hb)|refine kV ?_)<;>((repeat (first|(with_reducible refine af fun N hN hE hT=>?_)|(with_reducible refine ah fun N hN hE hT=>?_)));(try with_reducible refine ai fun X Y hX hY=>?_);(conv=>whnf)))|refine kY ?_ ?_)
      all_goals first|rfl|exact List.take_length|(rw [List.drop_zero];exact kI _ _)
end Go.Proofs.YtaecchphjploaaaGreat
