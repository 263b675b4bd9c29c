/- homesteadlaw20.SnapCells. -/
import Derived.Test.YtaecchphjploaaaGreatRq
import Derived.Test.YtaecchphjploaaaGreatKc
import Derived.Test.YtaecchphjploaaaGreatKh
set_option linter.unusedSimpArgs false
set_option linter.unusedVariables false
set_option maxRecDepth 100000
set_option maxHeartbeats 16000000
namespace Go.Proofs.YtaecchphjploaaaGreat
open Go Go.RowKit Eng
def flipI (i : Int) : Int:=if i = 2 then 0 else 2
theorem flip_ne (i : Int) : ¬ i = flipI i:=by unfold flipI;split<;>omega
def chg (lim : Nat) (cells : List (El .u8)) : Nat → List (El .u8) × Nat
 | 0=>(cells,0)
 | i + 1=>if ¬ @Eq Int (elt .u8 cells i) 9 ∧ (chg lim cells i).2 < lim then ((chg lim cells i).1.set i (flipI (elt .u8 cells i)),(chg lim cells i).2 + 1) else chg lim cells i
theorem chg_len (lim : Nat) (cells : List (El .u8)) : ∀ i,(chg lim cells i).1.length = cells.length
 | 0=>rfl
 | i + 1=>by
   have ih:=chg_len lim cells i
   unfold chg
   split
   · show (List.set _ _ _).length = _
     rw [List.length_set,ih]
   · exact ih
theorem chg_few (lim : Nat) (cells : List (El .u8)) : ∀ i,(chg lim cells i).2 ≤ lim ∧ (chg lim cells i).2 ≤ i
 | 0=>⟨Nat.zero_le _,Nat.zero_le _⟩
 | i + 1=>by
   obtain ⟨h1,h2⟩:=chg_few lim cells i
   unfold chg
   split
   · rename_i h;exact ⟨h.2,by show (chg lim cells i).2 + 1 ≤ i + 1;omega⟩
   · exact ⟨h1,by omega⟩
theorem chg_late (lim : Nat) (cells : List (El .u8)) : ∀ i j,i ≤ j → j < cells.length → @Eq Int (elt .u8 (chg lim cells i).1 j) (elt .u8 cells j)
 | 0,_,_,_=>rfl
 | i + 1,j,h,hj=>by
   have ih:=chg_late lim cells i j (by omega) hj
   unfold chg
   split
   · show @Eq Int (elt .u8 ((chg lim cells i).1.set i _) j) _
     rw [elt_setI (t:=.u8) (by rw [chg_len];exact hj),if_neg (by omega)];exact ih
   · exact ih
theorem chg_at (lim : Nat) (cells : List (El .u8)) : ∀ i j,i ≤ cells.length → j < cells.length → @Eq Int (elt .u8 (chg lim cells i).1 j) (elt .u8 cells j) ∨ (¬ @Eq Int (elt .u8 cells j) 9 ∧ @Eq Int (elt .u8 (chg lim cells i).1 j) (flipI (elt .u8 cells j)))
 | 0,_,_,_=>.inl rfl
 | i + 1,j,hi,hj=>by
   have ih:=chg_at lim cells i j (by omega) hj
   unfold chg
   split
   · rename_i h
     show @Eq Int (elt .u8 ((chg lim cells i).1.set i _) j) _ ∨ (_ ∧ @Eq Int (elt .u8 ((chg lim cells i).1.set i _) j) _)
     rw [elt_setI (t:=.u8) (by rw [chg_len];exact hj)]
     by_cases hij : i = j
     · subst hij
       rw [if_pos rfl]
       exact .inr ⟨h.1,rfl⟩
     · rw [if_neg hij];exact ih
   · exact ih
theorem diff_ext {a b c : List (El .u8)} : ∀ n,(∀ j,j < n → @Eq Int (elt .u8 b j) (elt .u8 c j)) → diffI a b n = diffI a c n:=fun n h=>by
 unfold diffI
 congr 1
 refine List.filter_congr fun j hj=>?_
 have:=h j (List.mem_range.1 hj)
 unfold diffB
 rw [this]
theorem diff_step {a b : List (El .u8)} {n : Nat} : diffI a b (n + 1) = if diffB a b n = true then diffI a b n ++ [natI n] else diffI a b n:=by
 unfold diffI
 rw [List.range_succ,List.filter_append,List.map_append]
 by_cases h : diffB a b n = true
 · rw [if_pos h];simp [h]
 · rw [if_neg h];simp [h]
theorem chg_diff (lim : Nat) (cells : List (El .u8)) : ∀ i,i ≤ cells.length → (diffI cells (chg lim cells i).1 i).length = (chg lim cells i).2
 | 0,_=>rfl
 | i + 1,hi=>by
   have ih:=chg_diff lim cells i (by omega)
   have hl:=chg_late lim cells i i (Nat.le_refl _) (by omega)
   rw [diff_step]
   by_cases hc : ¬ @Eq Int (elt .u8 cells i) 9 ∧ (chg lim cells i).2 < lim
   · have e : chg lim cells (i + 1) = ((chg lim cells i).1.set i (flipI (elt .u8 cells i)),(chg lim cells i).2 + 1):=if_pos hc
     rw [e]
     dsimp only
     have h1 : diffI cells ((chg lim cells i).1.set i (flipI (elt .u8 cells i))) i = diffI cells (chg lim cells i).1 i:=diff_ext i fun j hj=>by
       rw [elt_setI (t:=.u8) (by rw [chg_len];omega),if_neg (by omega)]
     have h2 : diffB cells ((chg lim cells i).1.set i (flipI (elt .u8 cells i))) i = true:=by
       unfold diffB
       rw [decide_eq_true_eq,elt_setI (t:=.u8) (by rw [chg_len];omega),if_pos rfl]
       exact flip_ne _
     rw [if_pos h2,h1,List.length_append,ih];rfl
   · have e : chg lim cells (i + 1) = chg lim cells i:=if_neg hc
     have h2 : ¬ diffB cells (chg lim cells i).1 i = true:=by
       unfold diffB
       rw [decide_eq_true_eq,hl]
       exact fun h=>h rfl
     rw [e,if_neg h2,ih]
theorem rightGo_ext : ∀ (a b : List Int) (k : Nat) (bs : List Box),a.length = b.length → (∀ j,j < a.length → (elt .u8 a j : Int) = elt .u8 b j ∨ ((¬ @Eq Int (elt .u8 a j) 9 ∧ itemOk (elt .u8 a j) = true) ∧ ¬ @Eq Int (elt .u8 b j) 9 ∧ itemOk (elt .u8 b j) = true)) → rightGo a k bs = rightGo b k bs
 | [],[],_,_,_,_=>rfl
 | [],_ :: _,_,_,h,_=>by simp at h
 | _ :: _,[],_,_,h,_=>by simp at h
 | x :: a,y :: b,k,bs,hl,h=>by
   have hl2 : a.length = b.length:=by simpa using hl
   have ih:=fun k bs=>rightGo_ext a b k bs hl2 fun j hj=>h (j + 1) (by simpa using hj)
   have h0:=h 0 (by simp)
   have h1 : x = y ∨ ((¬ x = 9 ∧ itemOk x = true) ∧ ¬ y = 9 ∧ itemOk y = true):=h0
   unfold rightGo
   rcases h1 with rfl|⟨⟨q1,q2⟩,q3,q4⟩
   · split
     · split
       · cases bs with
         | nil=>rfl
         | cons z bs=>
           dsimp only
           split
           · exact ih _ _
           · rfl
       · exact ih _ _
     · rfl
   · rw [if_pos q2,if_neg q1,if_pos q4,if_neg q3]
     exact ih _ _
theorem rightGo_items : ∀ (l : List Int) (k : Nat) (bs r : List Box),rightGo l k bs = some r → ∀ i ∈ l,itemOk i = true
 | [],_,_,_,_,i,hi=>by cases hi
 | x :: l,k,bs,r,h,i,hi=>by
   unfold rightGo at h
   by_cases hx : itemOk x = true
   · rw [if_pos hx] at h
     rcases List.mem_cons.1 hi with rfl|hi
     · exact hx
     · by_cases h9 : x = 9
       · rw [if_pos h9] at h
         cases bs with
         | nil=>cases h
         | cons z bs =>
           dsimp only at h
           by_cases hb : boxAt z k = true
           · rw [if_pos hb] at h;exact rightGo_items l _ _ _ h i hi
           · rw [if_neg hb] at h;cases h
       · rw [if_neg h9] at h;exact rightGo_items l _ _ _ h i hi
   · rw [if_neg hx] at h;cases h
theorem right_chg {c : Chunk} (h : rightB c = true) (lim : Nat) : rightB { c with cells:=(chg lim c.cells 64).1 } = true:=by
 have hR:=rightC_of h
 have hl : c.cells.length = 64:=hR.len
 have hcl:=chg_len lim c.cells 64
 have hg : rightGo (chg lim c.cells 64).1 0 c.boxes = rightGo c.cells 0 c.boxes:=by
   refine rightGo_ext _ _ 0 c.boxes hcl fun j hj=>?_
   rw [hcl] at hj
   rcases chg_at lim c.cells 64 j (by omega) hj with q|⟨q1,q2⟩
   · exact .inl q
   · right
     rw [q2]
     refine ⟨⟨?_,?_⟩,q1,?_⟩
     · unfold flipI;split<;>omega
     · unfold flipI;split<;>rfl
     · exact rightGo_items _ _ _ _ hR.go _ (elt_mem (t:=.u8) (by omega))
 unfold rightB headB at h ⊢
 rw [hg,hcl]
 exact h
open Go Go.RowKit Eng
theorem uintF_one : ∀ (f n : Nat),1 ≤ (uintF f n).length
 | 0,_=>Nat.le_refl _
 | f + 1,n=>by
   show 1 ≤ (if n < 128 then [(n : Int)] else ((n % 128 + 128 : Nat) : Int) :: uintF f (n / 128)).length
   split<;>simp
theorem uint_is1 {z : Int} (h : z < 128) : (uintL z.toNat).length = 1:=Nat.le_antisymm (uint1 h) (uintF_one 9 _)
theorem flat_set_len {α β : Type} (f : α → List β) (d : α) : ∀ (l : List α) (k : Nat) (c : α),k < l.length → ((l.set k c).flatMap f).length + (f (l.getD k d)).length = (l.flatMap f).length + (f c).length
 | [],_,_,h=>by simp at h
 | a :: l,0,c,_=>by simp only [List.set_cons_zero,List.flatMap_cons,List.length_append,List.getD_cons_zero];omega
 | a :: l,k + 1,c,h=>by
   have ih:=flat_set_len f d l k c (by simpa using h)
   simp only [List.set_cons_succ,List.flatMap_cons,List.length_append,List.getD_cons_succ]
   omega
theorem flat_set_eq {α β : Type} (f : α → List β) (d : α) : ∀ (l : List α) (k : Nat) (c : α),k < l.length → f c = f (l.getD k d) → (l.set k c).flatMap f = l.flatMap f
 | [],_,_,h,_=>by simp at h
 | a :: l,0,c,_,e=>by
   have e2 : f c = f a:=e
   simp only [List.set_cons_zero,List.flatMap_cons,e2]
 | a :: l,k + 1,c,h,e=>by
   have ih:=flat_set_eq f d l k c (by simpa using h) (by simpa using e)
   simp only [List.set_cons_succ,List.flatMap_cons,ih]
theorem elt_getD {t : Ty} {l : List (El t)} {k : Nat} (h : k < l.length) (d : El t) : l.getD k d = elt t l k:=by
 rw [List.getD_eq_getElem?_getD,elt_get t l k h];rfl
abbrev chgC (lim : Nat) (c : Chunk) : Chunk:={ c with cells:=(chg lim c.cells 64).1 }
def chgV (v : Viw) (k lim : Nat) : Viw:={ v with chunks:=v.chunks.set k (chgC lim (elt .chunk v.chunks k)) }
theorem right_chgV {v : Viw} (h : rightV v = true) {k : Nat} (hk : k < v.chunks.length) (lim : Nat) : rightV (chgV v k lim) = true:=by
 have hc:=(rightV_P h).chunks _ (elt_mem (t:=.chunk) hk)
 have hr:=right_chg hc lim
 have hel : ∀ i,i < v.chunks.length → elt .chunk (v.chunks.set k (chgC lim (elt .chunk v.chunks k))) i = if k = i then chgC lim (elt .chunk v.chunks k) else elt .chunk v.chunks i:=fun i hi=>elt_setI (t:=.chunk) hi
 have hor : ∀ i,i < v.chunks.length → (elt .chunk (v.chunks.set k (chgC lim (elt .chunk v.chunks k))) i).x = (elt .chunk v.chunks i).x ∧ (elt .chunk (v.chunks.set k (chgC lim (elt .chunk v.chunks k))) i).y = (elt .chunk v.chunks i).y:=fun i hi=>by
   rw [hel i hi]
   split
   · rename_i e;subst e;exact ⟨rfl,rfl⟩
   · exact ⟨rfl,rfl⟩
 unfold rightV headV at h ⊢
 simp only [Bool.and_eq_true,decide_eq_true_eq] at h ⊢
 obtain ⟨⟨⟨h1,h2,h3,h4,h5⟩,h6⟩,h7⟩:=h
 have hlen : (chgV v k lim).chunks.length = v.chunks.length:=List.length_set
 refine ⟨⟨⟨h1,h2,h3,by rw [hlen];exact h4,h5⟩,?_⟩,h7⟩
 rw [List.all_eq_true] at h6 ⊢
 intro i hi
 rw [List.mem_range,hlen] at hi
 have h8:=h6 i (List.mem_range.2 hi)
 unfold okCh at h8 ⊢
 rw [Bool.and_eq_true,Bool.or_eq_true] at h8 ⊢
 obtain ⟨q1,q2⟩:=h8
 refine ⟨?_,?_⟩
 · show rightB (elt .chunk (v.chunks.set k _) i) = true
   rw [hel i hi]
   split
   · exact hr
   · exact q1
 · rcases q2 with q2|q2
   · exact .inl q2
   · right
     rw [decide_eq_true_eq] at q2 ⊢
     have a1:=hor i hi
     have a2:=hor (i - 1) (by omega)
     unfold orderI at q2 ⊢
     show _ < _
     rw [show elt .chunk (chgV v k lim).chunks i = elt .chunk (v.chunks.set k (chgC lim (elt .chunk v.chunks k))) i from rfl,show elt .chunk (chgV v k lim).chunks (i - 1) = elt .chunk (v.chunks.set k (chgC lim (elt .chunk v.chunks k))) (i - 1) from rfl,a1.1,a1.2,a2.1,a2.2]
     exact q2
theorem flip_lt (i : Int) : flipI i < 128:=by unfold flipI;split<;>omega
theorem form_chg {v : Viw} (h : rightV v = true) {k : Nat} (hk : k < v.chunks.length) (lim : Nat) :
   ((chg lim (elt .chunk v.chunks k).cells 64).2 = 0 → chunkY v (chgC lim (elt .chunk v.chunks k)) = chunkY v (elt .chunk v.chunks k)) ∧
   (1 ≤ (chg lim (elt .chunk v.chunks k).cells 64).2 → (chg lim (elt .chunk v.chunks k).cells 64).2 ≤ 16 → (chunkY v (chgC lim (elt .chunk v.chunks k))).length = (chunkY v (elt .chunk v.chunks k)).length + 1 + 2 * (chg lim (elt .chunk v.chunks k).cells 64).2) ∧
   (16 < (chg lim (elt .chunk v.chunks k).cells 64).2 → (chunkY v (elt .chunk v.chunks k)).length + 60 ≤ (chunkY v (chgC lim (elt .chunk v.chunks k))).length):=by
 have hm:=elt_mem (t:=.chunk) hk
 have hc:=(rightV_P h).chunks _ hm
 have hself:=chunkY_self h hm
 have hfs:=find_self h hm
 have hl : (elt .chunk v.chunks k).cells.length = 64:=(goodC_right hc).len
 have hgc:=goodC_right (right_chg hc lim)
 generalize elt .chunk v.chunks k = c at *
 have hcl : (chg lim c.cells 64).1.length = 64:=by rw [chg_len];exact hl
 have hd:=chg_diff lim c.cells 64 (by omega)
 have hf : findV v (chgC lim c).x (chgC lim c).y = (c,true):=hfs
 have hturn : turnS c (chgC lim c) = (diffI c.cells (chg lim c.cells 64).1 64,true):=by
   unfold turnS
   rw [if_pos (by show (eqv c.heaps c.heaps && eqv c.boxes c.boxes) = true;rw [eqv_self,eqv_self];rfl)]
   show (diffI c.cells (chg lim c.cells 64).1 (chg lim c.cells 64).1.length,true) = _
   rw [hcl]
 have e0 : chunkY v (chgC lim c) = putY [c.x,c.y] ++ (if (chg lim c.cells 64).2 = 0 then putY [0] else if (chg lim c.cells 64).2 ≤ 16 then cellsY (chgC lim c) (diffI c.cells (chg lim c.cells 64).1 64) else wholeY (chgC lim c)):=by
   unfold chunkY formY
   rw [hf]
   dsimp only
   rw [hturn,Bool.true_and,if_pos rfl,hd]
 have hz : (putY [0]).length = 1:=by rw [put_one];exact uint_is1 (by omega)
 rw [hself,e0]
 generalize putY [c.x,c.y] = A
 refine ⟨fun h1=>by rw [if_pos h1],fun h1 h2=>?_,fun h1=>?_⟩
 · rw [if_neg (by omega),if_pos h2]
   have hfl : ((diffI c.cells (chg lim c.cells 64).1 64).flatMap (cellY (chgC lim c))).length = 2 * (chg lim c.cells 64).2:=by
     rw [← hd]
     have hall : ∀ i ∈ diffI c.cells (chg lim c.cells 64).1 64,(cellY (chgC lim c) i).length = 2:=fun i hi=>by
       obtain ⟨j,rfl,hj,hne⟩:=mem_diffI.1 hi
       rcases chg_at lim c.cells 64 j (by omega) (by omega) with q|⟨_,q⟩
       · exact absurd q.symm hne
       · have e : (elt .u8 (chgC lim c).cells (j : Int).toNat : Int) < 128:=by
           show (elt .u8 (chg lim c.cells 64).1 (j : Int).toNat : Int) < 128
           rw [Int.toNat_natCast,q]
           exact flip_lt _
         unfold cellY
         rw [put_cons,put_one,List.length_append,uint_is1 (by omega),uint_is1 e]
     generalize diffI c.cells (chg lim c.cells 64).1 64 = D at hall ⊢
     induction D with
     | nil=>rfl
     | cons i D ih =>
       rw [List.flatMap_cons,List.length_append,hall i (List.mem_cons_self ..),ih fun j hj=>hall j (List.mem_cons_of_mem _ hj),List.length_cons]
       omega
   unfold cellsY
   rw [put_cons,put_one,List.length_append,List.length_append,List.length_append,List.length_append,hfl,hd,hz,uint_is1 (z:=1) (by omega),uint_is1 (z:=((chg lim c.cells 64).2 : Int)) (by omega)]
   omega
 · rw [if_neg (by omega),if_neg (by omega)]
   have h64 : 64 ≤ (bytesC (chgC lim c)).length:=hgc.le.2
   have hw : (putY [2]).length = 1:=by rw [put_one];exact uint_is1 (by omega)
   unfold wholeY
   simp only [List.length_append,hz,hw]
   omega
theorem make_chg {v : Viw} (h : rightV v = true) {k : Nat} (hk : k < v.chunks.length) (lim : Nat) (hlim : lim ≤ 24) :
   ((chg lim (elt .chunk v.chunks k).cells 64).2 = 0 → makeY v (chgV v k lim) = makeY v v) ∧
   (1 ≤ (chg lim (elt .chunk v.chunks k).cells 64).2 → ((makeY v (chgV v k lim)).length = (makeY v v).length + 1 + 2 * (chg lim (elt .chunk v.chunks k).cells 64).2 ↔ (chg lim (elt .chunk v.chunks k).cells 64).2 ≤ 16)):=by
 obtain ⟨f1,f2,f3⟩:=form_chg h hk lim
 have hlen : (chgV v k lim).chunks.length = v.chunks.length:=List.length_set
 have hfew:=(chg_few lim (elt .chunk v.chunks k).cells 64).1
 have hel:=elt_getD (t:=.chunk) hk (emptyK : El .chunk)
 constructor
 · intro h0
   have e:=flat_set_eq (chunkY v) emptyK v.chunks k (chgC lim (elt .chunk v.chunks k)) hk ((f1 h0).trans (congrArg (chunkY v) hel.symm))
   unfold makeY
   rw [hlen]
   show putY _ ++ _ ++ _ ++ _ ++ _ ++ (v.chunks.set k (chgC lim (elt .chunk v.chunks k))).flatMap (chunkY v) ++ _ ++ _ = _
   rw [e]
   rfl
 · intro h1
   have e:=flat_set_len (chunkY v) emptyK v.chunks k (chgC lim (elt .chunk v.chunks k)) hk
   rw [show v.chunks.getD k emptyK = elt .chunk v.chunks k from hel] at e
   have e2 : (makeY v (chgV v k lim)).length + (v.chunks.flatMap (chunkY v)).length = (makeY v v).length + ((v.chunks.set k (chgC lim (elt .chunk v.chunks k))).flatMap (chunkY v)).length:=by
     unfold makeY
     rw [hlen]
     simp only [List.length_append,chgV]
     omega
   constructor
   · intro h2
     by_cases h3 : (chg lim (elt .chunk v.chunks k).cells 64).2 ≤ 16
     · exact h3
     · have:=f3 (by omega)
       omega
   · intro h2
     have:=f2 h1 h2
     omega
open Go Go.RowKit Eng
theorem patch_drop {l : List (El .chunk)} {k : Nat} (hk : k < l.length) (x : AV) : ((flat .chunk l).set (k * csz .chunk + 2) x).drop (k * csz .chunk) = i64 (elt .chunk l k).x :: i64 (elt .chunk l k).y :: x :: .vec .heap (elt .chunk l k).heaps :: .vec .box (elt .chunk l k).boxes :: (flat .chunk (l.drop (k + 1))):=by
 rw [List.drop_set,if_neg (by omega),← flat_drop,drop_elt (t:=.chunk) hk,show k * csz .chunk + 2 - k * csz .chunk = 2 by omega]
 rfl
theorem patch_flat {l : List (El .chunk)} {k : Nat} (hk : k < l.length) (lq : List (El .u8)) (x : AV) : ∀ (i : Nat) a,(flat .chunk (l.set k ({ elt .chunk l k with cells:=lq } : Chunk)))[i]? = some a → ((flat .chunk l).set (k * csz .chunk + 2) x)[i]? = some a ∨ (a = .vec .u8 lq ∧ ((flat .chunk l).set (k * csz .chunk + 2) x)[i]? = some x):=fun i a hi=>by
 rw [flat_set (t:=.chunk) hk] at hi
 have hlen:=flat_length .chunk l
 have hc5 : csz .chunk = 5:=rfl
 have hmul : (k + 1) * csz .chunk ≤ l.length * csz .chunk:=Nat.mul_le_mul_right _ hk
 rw [Nat.succ_mul] at hmul
 rw [List.getElem?_set]
 by_cases hin : k * csz .chunk ≤ i ∧ i < k * csz .chunk + csz .chunk
 · rw [if_pos hin] at hi
   by_cases h2 : k * csz .chunk + 2 = i
   · right
     rw [if_pos h2,if_pos (by omega)]
     rw [show i - k * csz .chunk = 2 by omega] at hi
     exact ⟨(Option.some.inj hi).symm,rfl⟩
   · left
     rw [if_neg h2]
     obtain ⟨j,rfl⟩ : ∃ j,i = k * csz .chunk + j:=⟨i - k * csz .chunk,by omega⟩
     rw [show k * csz .chunk + j - k * csz .chunk = j by omega] at hi
     refine flat_elt hk ?_
     have hj : j < 5:=by omega
     match j,hj,h2,hi with
     | 0,_,_,hi=>exact hi
     | 1,_,_,hi=>exact hi
     | 2,_,h2,_=>exact absurd rfl h2
     | 3,_,_,hi=>exact hi
     | 4,_,_,hi=>exact hi
 · rw [if_neg hin] at hi
   left
   rw [if_neg (by omega)]
   exact hi
theorem snapCellsNo_api (v : Viw) (which n : Int) (hv : OkV v) (hs : smallB v = false ∨ v.chunks.length = 0) : Api Tryz.prog 10 [viewV v,i64 which,.lit (.int .u8 n)] (bol true):=by
 have hsm:=small_api v hv
 have haw:=awake20_api
 cases hS : smallB v with
 | false =>
   rw [hS] at hsm
   refine Api.of_fin cfg_ok Tryz.func10 rfl (nt:=143) rfl rfl ?_
   ((repeat (first|(with_reducible refine evCut fun N hN hE hT=>?_)|(with_reducible refine evBlk fun N hN hE hT=>?_)));(try with_reducible refine evCnd fun X Y hX hY=>?_);(conv=>whnf))
   repeat' (first|exact trivial|((first|((first|refine hT _ _ ?_|refine hE _ _ _ ?_|refine hN _ _ ?_);clear hN hE hT)|((first|refine hX ?_|refine hY ?_);clear hX hY)|refine kL ?_|(refine ⟨fun hb=>?_,fun hb=>?_⟩<;>(try simp only [nrm] at hb)<;>(try (first|(exfalso;omega)|contradiction|exact kB hb)))|refine kA hsm ?_|refine kD hsm ?_|refine kA haw ?_|refine kD haw ?_|refine kW cfg_ok ?_|refine kC ?_|refine bdA ?_|refine bd2 ?_|refine bdR ?_|refine bdL ?_)<;>((repeat (first|(with_reducible refine evCut fun N hN hE hT=>?_)|(with_reducible refine evBlk fun N hN hE hT=>?_)));(try with_reducible refine evCnd fun X Y hX hY=>?_);(conv=>whnf)))|(refine And.intro ?_ ?_;rotate_left;(conv=>whnf);rotate_right))
   all_goals first|rfl|trace_state
 | true =>
   rw [hS] at hsm hs
   have h0 : v.chunks.length = 0:=by rcases hs with h|h;cases h;exact h
   refine Api.of_fin cfg_ok Tryz.func10 rfl (nt:=143) rfl rfl ?_
   ((repeat (first|(with_reducible refine evCut fun N hN hE hT=>?_)|(with_reducible refine evBlk fun N hN hE hT=>?_)));(try with_reducible refine evCnd fun X Y hX hY=>?_);(conv=>whnf))
   repeat' (first|exact trivial|((first|((first|refine hT _ _ ?_|refine hE _ _ _ ?_|refine hN _ _ ?_);clear hN hE hT)|((first|refine hX ?_|refine hY ?_);clear hX hY)|refine kL ?_|(refine ⟨fun hb=>?_,fun hb=>?_⟩<;>(try simp only [nrm] at hb)<;>(try (first|(exfalso;omega)|contradiction|exact kB hb)))|refine kA hsm ?_|refine kD hsm ?_|refine kA haw ?_|refine kD haw ?_|refine kW cfg_ok ?_|refine kC ?_|refine bdA ?_|refine bd2 ?_|refine bdR ?_|refine bdL ?_)<;>((repeat (first|(with_reducible refine evCut fun N hN hE hT=>?_)|(with_reducible refine evBlk fun N hN hE hT=>?_)));(try with_reducible refine evCnd fun X Y hX hY=>?_);(conv=>whnf)))|(refine And.intro ?_ ?_;rotate_left;(conv=>whnf);rotate_right))
   all_goals first|rfl|(exfalso;omega)|trace_state
theorem ghost_fin {X : Blk} {cs ps : List AV} {lq : List (El .u8)} {l' : List (El .chunk)} {cap : Option Nat} {nn mm : Nat} (hnn : nn = l'.length) (hmm : mm = lq.length) (hcs : cs[8]? = some (.own .chunk 75 0 nn cap))
   (hps : ∀ (i : Nat) a,(flat .chunk l')[i]? = some a → ps[i]? = some a ∨ (a = .vec .u8 lq ∧ ps[i]? = some (.own .u8 99 0 mm none))) : GhostM 0 [(6,X),(16,.box cs),(75,.box ps),(99,.row .u8 lq)] [(6,X),(16,.box (cs.set 8 (.vec .chunk l')))]:=by
 subst hnn hmm
 refine ghost_cells (W:=16) (R:=75) (Q:=99) rfl rfl rfl (by decide) (by decide) (by decide) hcs hps fun j=>?_
 by_cases h1 : j = 6
 · subst h1;rfl
 by_cases h2 : j = 16
 · subst h2;rfl
 by_cases h3 : j = 75
 · subst h3;rfl
 by_cases h4 : j = 99
 · subst h4;rfl
 rw [put_ne _ _ (by omega),put_ne _ _ (by omega),put_ne _ _ (by omega)]
 have e : ∀ k : Nat,¬ j = k → Nat.beq k j = false:=fun k h=>by rw [← Bool.not_eq_true];intro h2;exact h (Nat.eq_of_beq_eq_true h2).symm
 simp [mget,e 6 h1,e 16 h2,e 75 h3,e 99 h4,Ne.symm h1,Ne.symm h2,Ne.symm h3,Ne.symm h4]
theorem qdN {a b : Int} {c d : Prop} (ha : 0 ≤ a) (k : c) (hb : 0 < b:=by omega) : (0 ≤ a ∧ 0 < b ∧ c) ∨ d:=.inl ⟨ha,hb,k⟩
theorem snapCellsY_api (v : Viw) (which n : Int) (k lim : Nat) (hv : OkV v) (hS : smallB v = true) (hr : rightV v = true) (hk : k < v.chunks.length) (hwk : which % (v.chunks.length : Int) = k) (hn : 0 ≤ n ∧ n ≤ 255) (hlim : (lim : Int) = 1 + n % 24) : Api Tryz.prog 10 [viewV v,i64 which,.lit (.int .u8 n)] (bol true):=by
 have hsm:=small_api v hv
 rw [hS] at hsm
 have haw:=awake20_api
 have hP:=rightV_P hr
 have p6:=hP.nc
 have hpk:=pick_api which (v.chunks.length : Int) (by omega) (by omega)
 rw [hwk] at hpk
 have hl64 : (elt .chunk v.chunks k).cells.length = 64:=(goodC_right (hP.chunks _ (elt_mem (t:=.chunk) hk))).len
 have hc8 : ∀ i ∈ (elt .chunk v.chunks k).cells,0 ≤ i ∧ i ≤ 255:=(goodC_right (hP.chunks _ (elt_mem (t:=.chunk) hk))).cells
 have q0 : elt .chunk v.chunks (k : Int).toNat = elt .chunk v.chunks k:=rfl
 have hcs : 2 < csz .chunk:=by decide
 have hdr : ∀ N,List.drop ((k + 0) * csz .chunk) ((flat .chunk v.chunks).set ((k + 0) * csz .chunk + 2) (.own .u8 99 0 N none)) = _:=fun N=>patch_drop hk _
 have hrw:=right_chgV hr hk lim
 obtain ⟨mk1,mk2⟩:=make_chg hr hk lim (by omega)
 have g1:=make_api v v hv hv
 rw [makeE_good (right_base hr) hr] at g1
 have g2:=make_api v _ hv (okV_right3 hrw)
 rw [makeE_good (right_base hr) hrw] at g2
 have u1:=u8_makeY (right_base hr) hr
 have u2:=u8_makeY (right_base hr) hrw
 have hl1:=makeY_le (v:=v) hr
 have hl2:=makeY_le (v:=v) hrw
 have g3:=take_api (b:=makeY v (chgV v k lim)) hv u2 (by omega)
 rw [take_make hrw (right_base hr)] at g3
 have g4:=same19_api (chgV v k lim) (chgV v k lim) (okV_right3 hrw)
 rw [eqv_self] at g4
 have g5:=equal_api (makeY v v) (makeY v (chgV v k lim)) u1 u2
 dsimp only at g1 g2 g3 g5
 have hfew:=chg_few lim (elt .chunk v.chunks k).cells
 have hclen:=chg_len lim (elt .chunk v.chunks k).cells
 have hlate:=fun i hi=>chg_late lim (elt .chunk v.chunks k).cells i i (Nat.le_refl _) hi
 refine Api.of_fin cfg_ok Tryz.func10 rfl (nt:=143) rfl rfl ?_
 ((repeat (first|(with_reducible refine evCut fun N hN hE hT=>?_)|(with_reducible refine evBlk fun N hN hE hT=>?_)));(try with_reducible refine evCnd fun X Y hX hY=>?_);(conv=>whnf))
 repeat' (first|exact trivial|((first|((first|refine hT _ _ ?_|refine hE _ _ _ ?_|refine hN _ _ ?_);clear hN hE hT)|((first|refine hX ?_|refine hY ?_);clear hX hY)|refine kL ?_|(refine ⟨fun hb=>?_,fun hb=>?_⟩<;>(try simp only [nrm] at hb)<;>(try (first|(exfalso;omega)|contradiction|exact kB hb)))|(refine ⟨⟨by omega,hcs⟩,?_⟩)|(refine ⟨_,hdr _,?_⟩)|refine kA hsm ?_|refine kD hsm ?_|refine kA hpk ?_|refine kD hpk ?_|refine kA haw ?_|refine kD haw ?_|refine kW cfg_ok ?_|refine kC ?_|refine bdA ?_|refine bd2 ?_|refine bdR ?_|refine bdL ?_)<;>((repeat (first|(with_reducible refine evCut fun N hN hE hT=>?_)|(with_reducible refine evBlk fun N hN hE hT=>?_)));(try with_reducible refine evCnd fun X Y hX hY=>?_);(conv=>whnf)))|(refine And.intro ?_ ?_;rotate_left;(conv=>whnf);rotate_right))
 all_goals first|(exfalso;omega)|skip
 refine Runs.loopG cfg_ok (σ:=Nat × Bool) [2,3,7,8,9,58,59] (fun (i,fin)=>[.lit (.int .u8 n),.ptr 6 0,i64 k,.ptr 16 0,i64 (chg lim (elt .chunk v.chunks k).cells i).2,i64 ((0 + (elt .chunk v.chunks k).cells.length : Nat) : Int),i64 i])
   (fun (i,fin)=>match fin with|false=>[(6,.box (viewC v)),(16,.box [i64 v.tick,i64 v.me.id,i64 v.me.x,i64 v.me.y,.vec .slot v.me.bag,i64 v.me.wth,.vec .slot v.me.offer,bol v.me.agrees,.own .chunk 75 0 (0 + v.chunks.length) none,.vec .seen v.others]),(75,.box ((flat .chunk v.chunks).set ((k + 0) * csz .chunk + 2) (.own .u8 99 0 (0 + (elt .chunk v.chunks k).cells.length) none))),(99,.row .u8 (chg lim (elt .chunk v.chunks k).cells i).1)]|true=>[(6,.box (viewC v)),(16,.box (viewC (chgV v k lim)))])
   (fun (i,fin)=>i ≤ 64 ∧ (fin = true ↔ i = 64)) (fun (i,fin)=>64 - i) (0,false) ⟨by omega,by simp⟩ ?_ ?_
 · conv=>whnf
   exact ⟨rfl,GhostM.same fun _=>rfl⟩
 · rintro ⟨i,fin⟩ ⟨hi,hfin⟩
   try dsimp only at hi hfin
   cases fin with
   | true =>
     obtain rfl : i = 64:=hfin.1 rfl
     by_cases h0 : (chg lim (elt .chunk v.chunks k).cells 64).2 = 0
     · rw [mk1 h0] at g2 g3 g5
       rw [show eqL (makeY v v) (makeY v v) = true from decide_eq_true rfl] at g5
       conv=>whnf
       repeat' (first|exact trivial|((first|((first|refine hT _ _ ?_|refine hE _ _ _ ?_|refine hN _ _ ?_);clear hN hE hT)|((first|refine hX ?_|refine hY ?_);clear hX hY)|refine kL ?_|(refine ⟨fun hb=>?_,fun hb=>?_⟩<;>(try simp only [nrm] at hb)<;>(try (first|(exfalso;omega)|contradiction|exact kB hb)))|refine kA g1 ?_|refine kD g1 ?_|refine kA g2 ?_|refine kD g2 ?_|refine kA g3 ?_|refine kD g3 ?_|refine kA g4 ?_|refine kD g4 ?_|refine kA g5 ?_|refine kD g5 ?_|refine kA haw ?_|refine kD haw ?_|refine kW cfg_ok ?_|refine kC ?_|refine bdA ?_|refine bd2 ?_|refine bdR ?_|refine bdL ?_)<;>((repeat (first|(with_reducible refine evCut fun N hN hE hT=>?_)|(with_reducible refine evBlk fun N hN hE hT=>?_)));(try with_reducible refine evCnd fun X Y hX hY=>?_);(conv=>whnf)))|(refine And.intro ?_ ?_;rotate_left;(conv=>whnf);rotate_right))
       all_goals first|rfl|(exfalso;omega)|trace_state
     · have hm2:=mk2 (by omega)
       have hf2:=(hfew 64).1
       conv=>whnf
       repeat' (first|exact trivial|((first|((first|refine hT _ _ ?_|refine hE _ _ _ ?_|refine hN _ _ ?_);clear hN hE hT)|((first|refine hX ?_|refine hY ?_);clear hX hY)|refine kL ?_|(refine ⟨fun hb=>?_,fun hb=>?_⟩<;>(try simp only [nrm] at hb)<;>(try (first|(exfalso;omega)|contradiction|exact kB hb)))|refine kA g1 ?_|refine kD g1 ?_|refine kA g2 ?_|refine kD g2 ?_|refine kA g3 ?_|refine kD g3 ?_|refine kA g4 ?_|refine kD g4 ?_|refine kA g5 ?_|refine kD g5 ?_|refine kA haw ?_|refine kD haw ?_|refine kW cfg_ok ?_|refine kC ?_|refine bdA ?_|refine bd2 ?_|refine bdR ?_|refine bdL ?_)<;>((repeat (first|(with_reducible refine evCut fun N hN hE hT=>?_)|(with_reducible refine evBlk fun N hN hE hT=>?_)));(try with_reducible refine evCnd fun X Y hX hY=>?_);(conv=>whnf)))|(refine And.intro ?_ ?_;rotate_left;(conv=>whnf);rotate_right))
       all_goals first|rfl|(exfalso;omega)|(exfalso;apply hb;rw [Bool.eq_iff_iff,beq_iff_eq,decide_eq_true_eq];omega)|trace_state
   | false =>
     have hi64 : i < 64:=by
       rcases Nat.lt_or_ge i 64 with h|h
       · exact h
       · exact absurd (hfin.2 (by omega)) (by simp)
     have he : elt .u8 (chg lim (elt .chunk v.chunks k).cells i).1 ((i : Int).toNat + 0) = elt .u8 (elt .chunk v.chunks k).cells i:=hlate i (by omega)
     have hli:=hclen i
     have hbd:=hc8 _ (elt_mem (t:=.u8) (l:=(elt .chunk v.chunks k).cells) (i:=i) (by omega))
     have hstep1 : ¬ @Eq Int (elt .u8 (elt .chunk v.chunks k).cells i) 9 ∧ (chg lim (elt .chunk v.chunks k).cells i).2 < lim → chg lim (elt .chunk v.chunks k).cells (i + 1) = ((chg lim (elt .chunk v.chunks k).cells i).1.set i (flipI (elt .u8 (elt .chunk v.chunks k).cells i)),(chg lim (elt .chunk v.chunks k).cells i).2 + 1):=fun h=>if_pos h
     have hstep2 : ¬ (¬ @Eq Int (elt .u8 (elt .chunk v.chunks k).cells i) 9 ∧ (chg lim (elt .chunk v.chunks k).cells i).2 < lim) → chg lim (elt .chunk v.chunks k).cells (i + 1) = chg lim (elt .chunk v.chunks k).cells i:=fun h=>if_neg h
     have hfi:=(hfew i).2
     have hE : ∃ E : Int,@Eq Int (elt .u8 (elt .chunk v.chunks k).cells i) E:=⟨_,rfl⟩
     obtain ⟨E,hE⟩:=hE
     rw [hE] at he hbd hstep1 hstep2
     by_cases hst : ¬ @Eq Int E 9 ∧ (chg lim (elt .chunk v.chunks k).cells i).2 < lim
     · obtain ⟨ht1,ht2⟩:=hst
       by_cases h2 : E = 2
       · skip
         have hs:=hstep1 ⟨ht1,ht2⟩
         have hrow : (chg lim (elt .chunk v.chunks k).cells (i + 1)).1 = (chg lim (elt .chunk v.chunks k).cells i).1.set i 0:=by rw [hs];show List.set _ _ _ = _;unfold flipI;rw [if_pos h2]
         have hmany : (chg lim (elt .chunk v.chunks k).cells (i + 1)).2 = (chg lim (elt .chunk v.chunks k).cells i).2 + 1:=by rw [hs]
         have hfinal : i + 1 = 64 → GhostM 0 [(6,.box (viewC v)),(16,.box [i64 v.tick,i64 v.me.id,i64 v.me.x,i64 v.me.y,.vec .slot v.me.bag,i64 v.me.wth,.vec .slot v.me.offer,bol v.me.agrees,.own .chunk 75 0 (0 + v.chunks.length) none,.vec .seen v.others]),(75,.box ((flat .chunk v.chunks).set ((k + 0) * csz .chunk + 2) (.own .u8 99 0 (0 + (elt .chunk v.chunks k).cells.length) none))),(99,.row .u8 ((chg lim (elt .chunk v.chunks k).cells i).1.set i 0))] [(6,.box (viewC v)),(16,.box (viewC (chgV v k lim)))]:=fun h=>by
           rw [← hrow,h]
           exact ghost_fin (l':=v.chunks.set k (chgC lim (elt .chunk v.chunks k))) (by rw [List.length_set];omega) (by rw [hclen];omega) rfl (patch_flat hk _ _)
         clear hstep1 hstep2 hs hfew hclen hlate hc8
         by_cases hlast : i + 1 = 64
         · conv=>whnf
           repeat' (first|exact trivial|((first|((first|refine hT _ _ ?_|refine hE _ _ _ ?_|refine hN _ _ ?_);clear hN hE hT)|((first|refine hX ?_|refine hY ?_);clear hX hY)|refine kL ?_|(refine ⟨fun hb=>?_,fun hb=>?_⟩<;>(try simp only [nrm] at hb)<;>(try (first|(exfalso;omega)|contradiction|exact kB hb)))|(refine ⟨_,hdr _,?_⟩)|(rw [he])|(refine qdN hn.1 ?_)|refine kW cfg_ok ?_|refine kC ?_|refine bdA ?_|refine bd2 ?_|refine bdR ?_|refine bdL ?_)<;>((repeat (first|(with_reducible refine evCut fun N hN hE hT=>?_)|(with_reducible refine evBlk fun N hN hE hT=>?_)));(try with_reducible refine evCnd fun X Y hX hY=>?_);(conv=>whnf)))|(refine And.intro ?_ ?_;rotate_left;(conv=>whnf);rotate_right))
           all_goals first|(exfalso;omega)|skip
           all_goals
             refine .to (i + 1,true) ⟨(by first|omega|(dsimp only;omega)),by simp [hlast]⟩ (by first|omega|(dsimp only;omega)) ?_
             conv=>whnf
             refine ⟨?_,hfinal hlast⟩
             dsimp only
             first|(rw [hmany];done)|(rw [hmany];rfl)
         · conv=>whnf
           repeat' (first|exact trivial|((first|((first|refine hT _ _ ?_|refine hE _ _ _ ?_|refine hN _ _ ?_);clear hN hE hT)|((first|refine hX ?_|refine hY ?_);clear hX hY)|refine kL ?_|(refine ⟨fun hb=>?_,fun hb=>?_⟩<;>(try simp only [nrm] at hb)<;>(try (first|(exfalso;omega)|contradiction|exact kB hb)))|(refine ⟨_,hdr _,?_⟩)|(rw [he])|(refine qdN hn.1 ?_)|refine kW cfg_ok ?_|refine kC ?_|refine bdA ?_|refine bd2 ?_|refine bdR ?_|refine bdL ?_)<;>((repeat (first|(with_reducible refine evCut fun N hN hE hT=>?_)|(with_reducible refine evBlk fun N hN hE hT=>?_)));(try with_reducible refine evCnd fun X Y hX hY=>?_);(conv=>whnf)))|(refine And.intro ?_ ?_;rotate_left;(conv=>whnf);rotate_right))
           all_goals first|(exfalso;omega)|skip
           all_goals
             refine .to (i + 1,false) ⟨(by first|omega|(dsimp only;omega)),by simp [hlast]⟩ (by first|omega|(dsimp only;omega)) ?_
             conv=>whnf
             refine ⟨?_,GhostM.same fun _=>?_⟩
             · dsimp only
               first|(rw [hmany];done)|(rw [hmany];rfl)
             · dsimp only
               first|(rw [hrow];done)|(rw [hrow];rfl)
       · skip
         have hs:=hstep1 ⟨ht1,ht2⟩
         have hrow : (chg lim (elt .chunk v.chunks k).cells (i + 1)).1 = (chg lim (elt .chunk v.chunks k).cells i).1.set i 2:=by rw [hs];show List.set _ _ _ = _;unfold flipI;rw [if_neg h2]
         have hmany : (chg lim (elt .chunk v.chunks k).cells (i + 1)).2 = (chg lim (elt .chunk v.chunks k).cells i).2 + 1:=by rw [hs]
         have hfinal : i + 1 = 64 → GhostM 0 [(6,.box (viewC v)),(16,.box [i64 v.tick,i64 v.me.id,i64 v.me.x,i64 v.me.y,.vec .slot v.me.bag,i64 v.me.wth,.vec .slot v.me.offer,bol v.me.agrees,.own .chunk 75 0 (0 + v.chunks.length) none,.vec .seen v.others]),(75,.box ((flat .chunk v.chunks).set ((k + 0) * csz .chunk + 2) (.own .u8 99 0 (0 + (elt .chunk v.chunks k).cells.length) none))),(99,.row .u8 ((chg lim (elt .chunk v.chunks k).cells i).1.set i 2))] [(6,.box (viewC v)),(16,.box (viewC (chgV v k lim)))]:=fun h=>by
           rw [← hrow,h]
           exact ghost_fin (l':=v.chunks.set k (chgC lim (elt .chunk v.chunks k))) (by rw [List.length_set];omega) (by rw [hclen];omega) rfl (patch_flat hk _ _)
         clear hstep1 hstep2 hs hfew hclen hlate hc8
         by_cases hlast : i + 1 = 64
         · conv=>whnf
           repeat' (first|exact trivial|((first|((first|refine hT _ _ ?_|refine hE _ _ _ ?_|refine hN _ _ ?_);clear hN hE hT)|((first|refine hX ?_|refine hY ?_);clear hX hY)|refine kL ?_|(refine ⟨fun hb=>?_,fun hb=>?_⟩<;>(try simp only [nrm] at hb)<;>(try (first|(exfalso;omega)|contradiction|exact kB hb)))|(refine ⟨_,hdr _,?_⟩)|(rw [he])|(refine qdN hn.1 ?_)|refine kW cfg_ok ?_|refine kC ?_|refine bdA ?_|refine bd2 ?_|refine bdR ?_|refine bdL ?_)<;>((repeat (first|(with_reducible refine evCut fun N hN hE hT=>?_)|(with_reducible refine evBlk fun N hN hE hT=>?_)));(try with_reducible refine evCnd fun X Y hX hY=>?_);(conv=>whnf)))|(refine And.intro ?_ ?_;rotate_left;(conv=>whnf);rotate_right))
           all_goals first|(exfalso;omega)|skip
           all_goals
             refine .to (i + 1,true) ⟨(by first|omega|(dsimp only;omega)),by simp [hlast]⟩ (by first|omega|(dsimp only;omega)) ?_
             conv=>whnf
             refine ⟨?_,hfinal hlast⟩
             dsimp only
             first|(rw [hmany];done)|(rw [hmany];rfl)
         · conv=>whnf
           repeat' (first|exact trivial|((first|((first|refine hT _ _ ?_|refine hE _ _ _ ?_|refine hN _ _ ?_);clear hN hE hT)|((first|refine hX ?_|refine hY ?_);clear hX hY)|refine kL ?_|(refine ⟨fun hb=>?_,fun hb=>?_⟩<;>(try simp only [nrm] at hb)<;>(try (first|(exfalso;omega)|contradiction|exact kB hb)))|(refine ⟨_,hdr _,?_⟩)|(rw [he])|(refine qdN hn.1 ?_)|refine kW cfg_ok ?_|refine kC ?_|refine bdA ?_|refine bd2 ?_|refine bdR ?_|refine bdL ?_)<;>((repeat (first|(with_reducible refine evCut fun N hN hE hT=>?_)|(with_reducible refine evBlk fun N hN hE hT=>?_)));(try with_reducible refine evCnd fun X Y hX hY=>?_);(conv=>whnf)))|(refine And.intro ?_ ?_;rotate_left;(conv=>whnf);rotate_right))
           all_goals first|(exfalso;omega)|skip
           all_goals
             refine .to (i + 1,false) ⟨(by first|omega|(dsimp only;omega)),by simp [hlast]⟩ (by first|omega|(dsimp only;omega)) ?_
             conv=>whnf
             refine ⟨?_,GhostM.same fun _=>?_⟩
             · dsimp only
               first|(rw [hmany];done)|(rw [hmany];rfl)
             · dsimp only
               first|(rw [hrow];done)|(rw [hrow];rfl)
     · have ht : ¬ E = 9 → ¬ (chg lim (elt .chunk v.chunks k).cells i).2 < lim:=fun h1 h2=>hst ⟨h1,h2⟩
       have hs:=hstep2 hst
       have hrow : (chg lim (elt .chunk v.chunks k).cells (i + 1)).1 = (chg lim (elt .chunk v.chunks k).cells i).1:=by rw [hs]
       have hmany : (chg lim (elt .chunk v.chunks k).cells (i + 1)).2 = (chg lim (elt .chunk v.chunks k).cells i).2:=by rw [hs]
       have hfinal : i + 1 = 64 → GhostM 0 [(6,.box (viewC v)),(16,.box [i64 v.tick,i64 v.me.id,i64 v.me.x,i64 v.me.y,.vec .slot v.me.bag,i64 v.me.wth,.vec .slot v.me.offer,bol v.me.agrees,.own .chunk 75 0 (0 + v.chunks.length) none,.vec .seen v.others]),(75,.box ((flat .chunk v.chunks).set ((k + 0) * csz .chunk + 2) (.own .u8 99 0 (0 + (elt .chunk v.chunks k).cells.length) none))),(99,.row .u8 ((chg lim (elt .chunk v.chunks k).cells i).1))] [(6,.box (viewC v)),(16,.box (viewC (chgV v k lim)))]:=fun h=>by
         rw [← hrow,h]
         exact ghost_fin (l':=v.chunks.set k (chgC lim (elt .chunk v.chunks k))) (by rw [List.length_set];omega) (by rw [hclen];omega) rfl (patch_flat hk _ _)
       clear hstep1 hstep2 hs hfew hclen hlate hc8
       by_cases hlast : i + 1 = 64
       · conv=>whnf
         repeat' (first|exact trivial|((first|((first|refine hT _ _ ?_|refine hE _ _ _ ?_|refine hN _ _ ?_);clear hN hE hT)|((first|refine hX ?_|refine hY ?_);clear hX hY)|refine kL ?_|(refine ⟨fun hb=>?_,fun hb=>?_⟩<;>(try simp only [nrm] at hb)<;>(try (first|(exfalso;omega)|contradiction|exact kB hb)))|(refine ⟨_,hdr _,?_⟩)|(rw [he])|(refine qdN hn.1 ?_)|refine kW cfg_ok ?_|refine kC ?_|refine bdA ?_|refine bd2 ?_|refine bdR ?_|refine bdL ?_)<;>((repeat (first|(with_reducible refine evCut fun N hN hE hT=>?_)|(with_reducible refine evBlk fun N hN hE hT=>?_)));(try with_reducible refine evCnd fun X Y hX hY=>?_);(conv=>whnf)))|(refine And.intro ?_ ?_;rotate_left;(conv=>whnf);rotate_right))
         all_goals first|(exfalso;omega)|skip
         all_goals
           refine .to (i + 1,true) ⟨(by first|omega|(dsimp only;omega)),by simp [hlast]⟩ (by first|omega|(dsimp only;omega)) ?_
           conv=>whnf
           refine ⟨?_,hfinal hlast⟩
           dsimp only
           first|(rw [hmany];done)|(rw [hmany];rfl)
       · conv=>whnf
         repeat' (first|exact trivial|((first|((first|refine hT _ _ ?_|refine hE _ _ _ ?_|refine hN _ _ ?_);clear hN hE hT)|((first|refine hX ?_|refine hY ?_);clear hX hY)|refine kL ?_|(refine ⟨fun hb=>?_,fun hb=>?_⟩<;>(try simp only [nrm] at hb)<;>(try (first|(exfalso;omega)|contradiction|exact kB hb)))|(refine ⟨_,hdr _,?_⟩)|(rw [he])|(refine qdN hn.1 ?_)|refine kW cfg_ok ?_|refine kC ?_|refine bdA ?_|refine bd2 ?_|refine bdR ?_|refine bdL ?_)<;>((repeat (first|(with_reducible refine evCut fun N hN hE hT=>?_)|(with_reducible refine evBlk fun N hN hE hT=>?_)));(try with_reducible refine evCnd fun X Y hX hY=>?_);(conv=>whnf)))|(refine And.intro ?_ ?_;rotate_left;(conv=>whnf);rotate_right))
         all_goals first|(exfalso;omega)|skip
         all_goals
           refine .to (i + 1,false) ⟨(by first|omega|(dsimp only;omega)),by simp [hlast]⟩ (by first|omega|(dsimp only;omega)) ?_
           conv=>whnf
           refine ⟨?_,GhostM.same fun _=>?_⟩
           · dsimp only
             first|(rw [hmany];done)|(rw [hmany];rfl)
           · dsimp only
             first|(rw [hrow];done)|(rw [hrow];rfl)
theorem snapCells_api (v : Viw) (which n : Int) (hv : OkV v) (hn : 0 ≤ n ∧ n ≤ 255) : Api Tryz.prog 10 [viewV v,i64 which,.lit (.int .u8 n)] (bol true):=by
 by_cases hs : smallB v = false ∨ v.chunks.length = 0
 · exact snapCellsNo_api v which n hv hs
 · have hS : smallB v = true:=by
     cases h : smallB v with
     | true=>rfl
     | false=>exact absurd (.inl h) hs
   have hr : rightV v = true:=by
     unfold smallB at hS
     rw [Bool.and_eq_true] at hS
     exact hS.2
   have hl : 0 < v.chunks.length:=Nat.pos_of_ne_zero fun h=>hs (.inr h)
   have h1:=Int.emod_nonneg which (show (v.chunks.length : Int) ≠ 0 by omega)
   have h2:=Int.emod_lt_of_pos which (show (0 : Int) < v.chunks.length by omega)
   exact snapCellsY_api v which n (which % (v.chunks.length : Int)).toNat (1 + n % 24).toNat hv hS hr (by omega) (by omega) hn (by omega)
end Go.Proofs.YtaecchphjploaaaGreat
