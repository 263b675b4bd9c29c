/- Deltas, plain; chunk.Read. -/
import Derived.Test.YtaecchphjploaaaGreatGm
import Derived.Test.YtaecchphjploaaaGreatGl
import Derived.Test.YtaecchphjploaaaGreatGc
import Derived.Test.YtaecchphjploaaaGreatGk
set_option linter.unusedSimpArgs false
set_option linter.unusedVariables false
set_option maxRecDepth 100000
set_option maxHeartbeats 16000000
namespace Go.Proofs.YtaecchphjploaaaGreat
open Go Go.RowKit Eng
abbrev B40 : Nat:=1099511627776
def emptyV : Viw:=⟨0,⟨0,0,0,[],0,[],false⟩,[],[]⟩
noncomputable def nothingB (v : Viw) : Bool:=eqv v emptyV
noncomputable def baseB (v : Viw) : Bool:=nothingB v || rightV v
def hereC (x y : Int) (c : Chunk) : Bool:=decide (c.x = x) && decide (c.y = y)
def findV (v : Viw) (x y : Int) : Chunk × Bool:=if idxGo (hereC x y) v.chunks 0 < 0 then (emptyK,false) else (elt .chunk v.chunks (idxGo (hereC x y) v.chunks 0).toNat,true)
def diffB (a b : List (El .u8)) (k : Nat) : Bool:=decide (¬ @Eq Int (elt .u8 a k) (elt .u8 b k))
def natI (i : Nat) : Int:=i
def diffI (a b : List (El .u8)) (k : Nat) : List (El .i64):=((List.range k).filter (diffB a b)).map natI
noncomputable def turnS (a b : Chunk) : List (El .i64) × Bool:=if eqv a.heaps b.heaps && eqv a.boxes b.boxes then (diffI a.cells b.cells b.cells.length,true) else ([],false)
def cellY (c : Chunk) (i : Int) : List Int:=putY [i,elt .u8 c.cells i.toNat]
def cellsY (c : Chunk) (l : List (El .i64)) : List Int:=putY [1,(l.length : Int)] ++ l.flatMap (cellY c)
def wholeY (c : Chunk) : List Int:=putY [2] ++ (uintL (bytesC c).length ++ bytesC c)
noncomputable def formY (was : Chunk × Bool) (c : Chunk) : List Int:=
 if was.2 && (turnS was.1 c).2 then (if (turnS was.1 c).1.length = 0 then putY [0] else if (turnS was.1 c).1.length ≤ 16 then cellsY c (turnS was.1 c).1 else wholeY c) else wholeY c
noncomputable def chunkY (v : Viw) (c : Chunk) : List Int:=putY [c.x,c.y] ++ formY (findV v c.x c.y) c
def seenY (s : Seen) : List Int:=putY [s.id,s.x,s.y]
def agI (b : Bool) : Int:=if b = true then 1 else 0
noncomputable def makeY (v n : Viw) : List Int:=
 putY [n.tick,n.me.id,n.me.x,n.me.y] ++ n.me.bag.flatMap slotL ++ putY [n.me.wth + 1,agI n.me.agrees] ++ n.me.offer.flatMap slotL ++ putY [(n.chunks.length : Int)] ++ n.chunks.flatMap (chunkY v) ++ putY [(n.others.length : Int)] ++ n.others.flatMap seenY
noncomputable def makeB (v n : Viw) : Bool:=rightV n && baseB v
def slotM (b : List Int) (most : Nat) (s : Rd) : Slot × Rd:=(⟨(numI b 255 s).1,(numI b most (numI b 255 s).2).1⟩,(numI b most (numI b 255 s).2).2)
def seenR (b : List Int) (s : Rd) : Seen × Rd:=
 let i:=numI b B40 s
 let x:=numI b B40 i.2
 let y:=numI b B40 x.2
 (⟨i.1,x.1,y.1⟩,y.2)
def cellsR (b : List Int) : Nat → List Int → Rd → List Int × Rd
 | 0,l,s=>(l,s)
 | n + 1,l,s=>if s.bad = true then (l,s) else cellsR b n (l.set (numI b 63 s).1.toNat (numI b 255 (numI b 63 s).2).1) (numI b 255 (numI b 63 s).2).2
def blobS (b : List Int) (x y : Int) (s : Rd) : Chunk × Rd:=
 if s.bad = true then (emptyK,s)
 else if (blobR b 5000 s).2.bad = true ∨ ¬ (readC (blobR b 5000 s).1).2 = 0 ∨ ¬ (readC (blobR b 5000 s).1).1.x = x ∨ ¬ (readC (blobR b 5000 s).1).1.y = y then ((readC (blobR b 5000 s).1).1,⟨s.pos,true⟩)
 else ((readC (blobR b 5000 s).1).1,(blobR b 5000 s).2)
def restR (b : List Int) (was : Chunk × Bool) (x y fm : Int) (s : Rd) : Chunk × Rd:=
 if fm = 2 then blobS b x y s
 else if was.2 = false then (emptyK,⟨s.pos,true⟩)
 else if fm = 1 then
   ({ was.1 with cells:=(cellsR b (numI b 16 s).1.toNat was.1.cells (numI b 16 s).2).1 },(cellsR b (numI b 16 s).1.toNat was.1.cells (numI b 16 s).2).2)
 else (was.1,s)
def chunkRS (b : List Int) (v : Viw) (s : Rd) : Chunk × Rd:=
 let x:=numI b B40 s
 let y:=numI b B40 x.2
 let fm:=numI b 2 y.2
 restR b (findV v x.1 y.1) x.1 y.1 fm.1 fm.2
structure TkK (b : List Int) where
 t : Int × Rd
 id : Int × Rd
 x : Int × Rd
 y : Int × Rd
 bag : List Slot × Rd
 w : Int × Rd
 ag : Int × Rd
 off : List Slot × Rd
 nc : Int × Rd
 cs : List Chunk × Rd
 no : Int × Rd
 os : List Seen × Rd
def tkK (v : Viw) (b : List Int) : TkK b:=
 let t:=numI b B40 ⟨0,false⟩
 let id:=numI b B40 t.2
 let x:=numI b B40 id.2
 let y:=numI b B40 x.2
 let bag:=allR (slotM b B40) 8 y.2
 let w:=numI b B40 bag.2
 let ag:=numI b 1 w.2
 let off:=if 0 ≤ w.1 - 1 then allR (slotM b B40) 8 ag.2 else ([],ag.2)
 let nc:=numI b 49 off.2
 let cs:=manyR (chunkRS b v) nc.1.toNat nc.2
 let no:=numI b 32 cs.2
 let os:=manyR (seenR b) no.1.toNat no.2
 ⟨t,id,x,y,bag,w,ag,off,nc,cs,no,os⟩
def takeN (v : Viw) (b : List Int) : Viw:=
 let k:=tkK v b
 ⟨k.t.1,⟨k.id.1,k.x.1,k.y.1,k.bag.1,k.w.1 - 1,k.off.1,decide (k.ag.1 = 1)⟩,k.cs.1,k.os.1⟩
noncomputable def takeY (v : Viw) (b : List Int) : Viw × Int:=
 if baseB v = false then (emptyV,113)
 else if (tkK v b).os.2.bad = true ∨ ¬ (tkK v b).os.2.pos = b.length then (emptyV,120)
 else if makeB v (takeN v b) = true ∧ makeY v (takeN v b) = b then (takeN v b,0) else (emptyV,120)
open Go Go.RowKit Eng
theorem numI_write {b : List Int} {s : Rd} {z : Int} {most : Nat} {r : List Int} (hs : s.bad = false) (hd : b.drop s.pos = uintL z.toNat ++ r) (hz : 0 ≤ z ∧ z ≤ most) (hm : most < 2 * 128 ^ 9) : numI b most s = (z,⟨s.pos + (uintL z.toNat).length,false⟩):=by
 obtain ⟨h1,_⟩:=numR_write hs hd (show z.toNat ≤ most by omega) hm
 unfold numI
 rw [h1]
 show (((z.toNat : Nat) : Int),_) = _
 rw [Int.toNat_of_nonneg hz.1]
theorem put_cons (z : Int) (l : List Int) : putY (z :: l) = uintL z.toNat ++ putY l:=rfl
theorem put_one (z : Int) : putY [z] = uintL z.toNat:=by simp [putY]
theorem numI_bad {b : List Int} {most : Nat} {s : Rd} (h : s.bad = true) : numI b most s = (0,s):=by
 unfold numI;rw [numR_bad h];rfl
theorem numI_stays {b : List Int} {most : Nat} {s : Rd} (h : s.bad = true) : (numI b most s).2.bad = true:=by rw [numI_bad h];exact h
theorem two_write {b : List Int} {s : Rd} {z y : Int} {m k : Nat} {r : List Int} (hs : s.bad = false) (hd : b.drop s.pos = putY [z,y] ++ r) (hz : 0 ≤ z ∧ z ≤ m) (hy : 0 ≤ y ∧ y ≤ k) (hm : m < 2 * 128 ^ 9) (hk : k < 2 * 128 ^ 9) :
   (numI b m s).1 = z ∧ (numI b m s).2.bad = false ∧ numI b k (numI b m s).2 = (y,⟨s.pos + (putY [z,y]).length,false⟩):=by
 rw [put_cons,put_one,List.append_assoc] at hd
 have h1:=numI_write hs hd hz hm
 have h2:=numI_write (b:=b) (s:=⟨s.pos + (uintL z.toNat).length,false⟩) rfl (drop_app hd) hy hk
 rw [h1]
 refine ⟨rfl,rfl,?_⟩
 rw [h2,put_cons,put_one,List.length_append,Nat.add_assoc]
theorem slotM_write {b : List Int} {s : Rd} {x : Slot} {m : Nat} {r : List Int} (hs : s.bad = false) (hd : b.drop s.pos = slotL x ++ r) (hi : 0 ≤ x.item ∧ x.item ≤ 255) (hn : 0 ≤ x.n ∧ x.n ≤ m) (hm : m < 2 * 128 ^ 9) : slotM b m s = (x,⟨s.pos + (slotL x).length,false⟩):=by
 obtain ⟨h1,h2,h3⟩:=two_write hs hd hi hn (by decide) hm
 unfold slotM
 rw [h3,show (numI b 255 s).1 = x.item from h1]
 rfl
theorem all_write {α : Type} {b : List Int} {f : Rd → α × Rd} {enc : α → List Int} : ∀ (l : List α) (s : Rd) (r : List Int),s.bad = false → (∀ x ∈ l,∀ (s : Rd) (r : List Int),s.bad = false → b.drop s.pos = enc x ++ r → f s = (x,⟨s.pos + (enc x).length,false⟩)) → b.drop s.pos = l.flatMap enc ++ r → allR f l.length s = (l,⟨s.pos + (l.flatMap enc).length,false⟩):=by
 intro l
 induction l with
 | nil=>intro s r hs _ _;cases s;cases hs;rfl
 | cons x t ih =>
   intro s r hs ho hd
   rw [List.flatMap_cons,List.append_assoc] at hd
   have a1:=ho x (List.mem_cons_self ..) s _ hs hd
   have a2:=ih ⟨s.pos + (enc x).length,false⟩ r rfl (fun y hy=>ho y (List.mem_cons_of_mem _ hy)) (drop_app hd)
   show ((f s).1 :: (allR f t.length (f s).2).1,(allR f t.length (f s).2).2) = _
   rw [a1,a2,List.flatMap_cons,List.length_append,Nat.add_assoc]
inductive All2 {α β : Type} (R : α → β → Prop) : List α → List β → Prop where
 | nil : All2 R [] []
 | cons {a : α} {b : β} {l : List α} {k : List β} (h : R a b) (t : All2 R l k) : All2 R (a :: l) (b :: k)
theorem many_sync {α β : Type} {b : List Int} {f : Rd → β × Rd} {enc : α → List Int} {R : α → β → Prop} : ∀ (l : List α) (s : Rd) (r : List Int),s.bad = false → (∀ x ∈ l,∀ (s : Rd) (r : List Int),s.bad = false → b.drop s.pos = enc x ++ r → (f s).2.bad = true ∨ (R x (f s).1 ∧ (f s).2 = ⟨s.pos + (enc x).length,false⟩)) → b.drop s.pos = l.flatMap enc ++ r →
   (manyR f l.length s).2.bad = true ∨ (All2 R l (manyR f l.length s).1 ∧ (manyR f l.length s).2 = ⟨s.pos + (l.flatMap enc).length,false⟩):=by
 intro l
 induction l with
 | nil=>intro s r hs _ _;cases s;cases hs;exact .inr ⟨.nil,rfl⟩
 | cons x t ih =>
   intro s r hs ho hd
   rw [List.flatMap_cons,List.append_assoc] at hd
   have e : manyR f (x :: t).length s = ((f s).1 :: (manyR f t.length (f s).2).1,(manyR f t.length (f s).2).2):=if_neg (by rw [hs];simp)
   rw [e]
   rcases ho x (List.mem_cons_self ..) s _ hs hd with h1|⟨h1,h2⟩
   · left
     show (manyR f t.length (f s).2).2.bad = true
     rw [many_stays _ _ h1];exact h1
   · rcases ih ⟨s.pos + (enc x).length,false⟩ r rfl (fun y hy=>ho y (List.mem_cons_of_mem _ hy)) (drop_app hd) with h3|⟨h3,h4⟩
     · left
       show (manyR f t.length (f s).2).2.bad = true
       rw [h2];exact h3
     · right
       refine ⟨.cons h1 (by rw [h2];exact h3),?_⟩
       show (manyR f t.length (f s).2).2 = _
       rw [h2,h4,List.flatMap_cons,List.length_append,Nat.add_assoc]
theorem many_exact {α : Type} {b : List Int} {f : Rd → α × Rd} {enc : α → List Int} : ∀ (l : List α) (s : Rd) (r : List Int),s.bad = false → (∀ x ∈ l,∀ (s : Rd) (r : List Int),s.bad = false → b.drop s.pos = enc x ++ r → f s = (x,⟨s.pos + (enc x).length,false⟩)) → b.drop s.pos = l.flatMap enc ++ r → manyR f l.length s = (l,⟨s.pos + (l.flatMap enc).length,false⟩):=by
 intro l
 induction l with
 | nil=>intro s r hs _ _;cases s;cases hs;rfl
 | cons x t ih =>
   intro s r hs ho hd
   rw [List.flatMap_cons,List.append_assoc] at hd
   have a1:=ho x (List.mem_cons_self ..) s _ hs hd
   have a2:=ih ⟨s.pos + (enc x).length,false⟩ r rfl (fun y hy=>ho y (List.mem_cons_of_mem _ hy)) (drop_app hd)
   show (if s.bad = true then ([],s) else ((f s).1 :: (manyR f t.length (f s).2).1,(manyR f t.length (f s).2).2)) = _
   rw [if_neg (by rw [hs];simp),a1,a2,List.flatMap_cons,List.length_append,Nat.add_assoc]
theorem seen_write {b : List Int} {s : Rd} {x : Seen} {r : List Int} (hs : s.bad = false) (hd : b.drop s.pos = seenY x ++ r) (hi : 0 ≤ x.id ∧ x.id ≤ B40) (hx : 0 ≤ x.x ∧ x.x ≤ B40) (hy : 0 ≤ x.y ∧ x.y ≤ B40) : seenR b s = (x,⟨s.pos + (seenY x).length,false⟩):=by
 have hd2:=hd
 unfold seenY at hd2
 rw [put_cons,List.append_assoc] at hd2
 have h1:=numI_write hs hd2 hi (by decide)
 obtain ⟨h2,h3,h4⟩:=two_write (b:=b) (s:=⟨s.pos + (uintL x.id.toNat).length,false⟩) (m:=B40) (k:=B40) rfl (drop_app hd2) hx hy (by decide) (by decide)
 unfold seenR
 dsimp only
 rw [h1]
 dsimp only
 rw [h4,h2]
 unfold seenY
 rw [put_cons x.id,List.length_append,Nat.add_assoc]
def setAll (c : List Int) : List Int → List Int → List Int
 | l,[]=>l
 | l,i :: t=>setAll c (l.set i.toNat (elt .u8 c i.toNat)) t
theorem cellsR_write {b : List Int} (c : Chunk) : ∀ (l : List (El .i64)) (s : Rd) (r w : List Int),s.bad = false → (∀ i : Int,i ∈ l → 0 ≤ i ∧ i ≤ 63 ∧ (0 : Int) ≤ elt .u8 c.cells i.toNat ∧ (elt .u8 c.cells i.toNat : Int) ≤ 255) → b.drop s.pos = l.flatMap (cellY c) ++ r → cellsR b l.length w s = (setAll c.cells w l,⟨s.pos + (l.flatMap (cellY c)).length,false⟩):=by
 intro l
 induction l with
 | nil=>intro s r w hs _ _;cases s;cases hs;rfl
 | cons i t ih =>
   intro s r w hs ho hd
   obtain ⟨o1,o2,o3,o4⟩:=ho i (List.mem_cons_self ..)
   rw [List.flatMap_cons,List.append_assoc] at hd
   obtain ⟨h1,h2,h3⟩:=two_write (b:=b) (m:=63) (k:=255) hs hd ⟨o1,o2⟩ ⟨o3,o4⟩ (by decide) (by decide)
   have a2:=ih ⟨s.pos + (cellY c i).length,false⟩ r (w.set i.toNat (elt .u8 c.cells i.toNat)) rfl (fun y hy=>ho y (List.mem_cons_of_mem _ hy)) (drop_app hd)
   show (if s.bad = true then (w,s) else cellsR b t.length (w.set (numI b 63 s).1.toNat (numI b 255 (numI b 63 s).2).1) (numI b 255 (numI b 63 s).2).2) = _
   rw [if_neg (by rw [hs];simp),h3,h1]
   show cellsR b t.length (w.set i.toNat (elt .u8 c.cells i.toNat)) ⟨s.pos + (cellY c i).length,false⟩ = _
   rw [a2,List.flatMap_cons,List.length_append,Nat.add_assoc]
   rfl
open Go Go.RowKit Eng
theorem numI_gu {b : List Int} {s : Rd} {most : Nat} (hs : s.bad = false) : numI b most s = if (guN b s.pos).2.2 = 0 ∧ (guN b s.pos).1 ≤ most then (((guN b s.pos).1 : Int),⟨(guN b s.pos).2.1,false⟩) else (0,⟨s.pos,true⟩):=by
 unfold numI numR guN
 rw [if_neg (by rw [hs];simp)]
 cases hg : getF 9 (b.drop s.pos) with
 | none =>
   dsimp only
   have h : ¬ errU (b.drop s.pos) = 0:=by unfold errU;split<;>omega
   rw [if_neg fun x=>h x.1];rfl
 | some p =>
   obtain ⟨n,k⟩:=p
   dsimp only
   by_cases h : n ≤ most
   · rw [if_pos h,if_pos ⟨rfl,h⟩]
   · rw [if_neg h,if_neg fun x=>h x.2];rfl
theorem numI_le {b : List Int} {s : Rd} {most : Nat} : 0 ≤ (numI b most s).1 ∧ (numI b most s).1 ≤ most:=by
 cases hs : s.bad with
 | true=>rw [numI_bad hs];exact ⟨by show (0 : Int) ≤ 0;omega,by show (0 : Int) ≤ most;omega⟩
 | false =>
   rw [numI_gu hs]
   split
   · rename_i h;exact ⟨by show (0 : Int) ≤ _;omega,by show ((guN b s.pos).1 : Int) ≤ most;omega⟩
   · exact ⟨by show (0 : Int) ≤ 0;omega,by show (0 : Int) ≤ most;omega⟩
theorem numI_pos {b : List Int} (hb : okU8 b) {s : Rd} {most : Nat} (hp : s.pos ≤ b.length) : (numI b most s).2.pos ≤ b.length:=by
 cases hs : s.bad with
 | true=>rw [numI_bad hs];exact hp
 | false =>
   rw [numI_gu hs]
   split
   · exact (guN_le hb hp).1
   · exact hp
abbrev rdC (b : List (El .u8)) (s : Rd) : List AV:=[.vec .u8 b,i64 s.pos,bol s.bad]
theorem cnum_ev (b : List (El .u8)) (s : Rd) (most : Nat) (hb : okU8 b) (hl : b.length ≤ 1000000000000) (hp : s.pos ≤ b.length) (hm : most ≤ 2000000000000) : Ev1 Tryz.prog 182 [.ptr 0 0,i64 most] [(0,.box (rdC b s))] (i64 (numI b most s).1) [(0,.box (rdC b (numI b most s).2))]:=by
 have hu:=getU_api b s.pos hb hl hp
 obtain ⟨h1,h2⟩:=guN_le hb hp
 cases hs : s.bad with
 | true =>
   rw [numI_bad hs]
   obtain ⟨p,bd⟩:=s
   replace hs : bd = true:=hs
   subst hs
   refine Ev1.of_fin cfg_ok Tryz.func182 rfl (nt:=40) rfl rfl rfl ?_
   conv=>whnf
   repeat' (first|exact trivial|((first|refine kL ?_|(refine ⟨fun hb=>?_,fun hb=>?_⟩<;>(try simp only [nrm] at hb)<;>(try (first|(exfalso;omega)|contradiction|exact kB hb)))|refine kW cfg_ok ?_|refine kC ?_|refine bdA ?_|refine bd2 ?_|refine bdR ?_|refine bdL ?_)<;>(conv=>whnf))|(refine And.intro ?_ ?_;rotate_left;(conv=>whnf);rotate_right))
 | false =>
   rw [numI_gu hs]
   generalize guN b s.pos = G at *
   obtain ⟨n,f,e⟩:=G
   dsimp only at *
   by_cases c1 : e = 0 ∧ n ≤ most
   · rw [if_pos c1]
     obtain ⟨rfl,c2⟩:=c1
     dsimp only
     refine Ev1.of_fin cfg_ok Tryz.func182 rfl (nt:=40) rfl rfl rfl ?_
     conv=>whnf
     repeat' (first|exact trivial|((first|refine kL ?_|(refine ⟨fun hb=>?_,fun hb=>?_⟩<;>(try simp only [nrm] at hb)<;>(try (first|(exfalso;omega)|contradiction|exact kB hb)))|refine kA hu ?_|refine kD hu ?_|refine kW cfg_ok ?_|refine kC ?_|refine bdA ?_|refine bd2 ?_|refine bdR ?_|refine bdL ?_)<;>(conv=>whnf))|(refine And.intro ?_ ?_;rotate_left;(conv=>whnf);rotate_right))
     all_goals (try exact congrArg Value.bool hs)
   · rw [if_neg c1]
     dsimp only
     refine Ev1.of_fin cfg_ok Tryz.func182 rfl (nt:=40) rfl rfl rfl ?_
     conv=>whnf
     repeat' (first|exact trivial|((first|refine kL ?_|(refine ⟨fun hb=>?_,fun hb=>?_⟩<;>(try simp only [nrm] at hb)<;>(try (first|(exfalso;omega)|contradiction|exact kB hb)))|refine kA hu ?_|refine kD hu ?_|refine kW cfg_ok ?_|refine kC ?_|refine bdA ?_|refine bd2 ?_|refine bdR ?_|refine bdL ?_)<;>(conv=>whnf))|(refine And.intro ?_ ?_;rotate_left;(conv=>whnf);rotate_right))
     all_goals (try exact congrArg Value.bool hs)
     all_goals omega
theorem snum_ev (b : List (El .u8)) (s : Rd) (most : Nat) (hb : okU8 b) (hl : b.length ≤ 1000000000000) (hp : s.pos ≤ b.length) (hm : most ≤ 2000000000000) : Ev1 Tryz.prog 100 [.ptr 0 0,i64 most] [(0,.box (rdC b s))] (i64 (numI b most s).1) [(0,.box (rdC b (numI b most s).2))]:=by
 have hu:=getU_api b s.pos hb hl hp
 obtain ⟨h1,h2⟩:=guN_le hb hp
 cases hs : s.bad with
 | true =>
   rw [numI_bad hs]
   obtain ⟨p,bd⟩:=s
   replace hs : bd = true:=hs
   subst hs
   refine Ev1.of_fin cfg_ok Tryz.func100 rfl (nt:=40) rfl rfl rfl ?_
   conv=>whnf
   repeat' (first|exact trivial|((first|refine kL ?_|(refine ⟨fun hb=>?_,fun hb=>?_⟩<;>(try simp only [nrm] at hb)<;>(try (first|(exfalso;omega)|contradiction|exact kB hb)))|refine kW cfg_ok ?_|refine kC ?_|refine bdA ?_|refine bd2 ?_|refine bdR ?_|refine bdL ?_)<;>(conv=>whnf))|(refine And.intro ?_ ?_;rotate_left;(conv=>whnf);rotate_right))
 | false =>
   rw [numI_gu hs]
   generalize guN b s.pos = G at *
   obtain ⟨n,f,e⟩:=G
   dsimp only at *
   by_cases c1 : e = 0 ∧ n ≤ most
   · rw [if_pos c1]
     obtain ⟨rfl,c2⟩:=c1
     dsimp only
     refine Ev1.of_fin cfg_ok Tryz.func100 rfl (nt:=40) rfl rfl rfl ?_
     conv=>whnf
     repeat' (first|exact trivial|((first|refine kL ?_|(refine ⟨fun hb=>?_,fun hb=>?_⟩<;>(try simp only [nrm] at hb)<;>(try (first|(exfalso;omega)|contradiction|exact kB hb)))|refine kA hu ?_|refine kD hu ?_|refine kW cfg_ok ?_|refine kC ?_|refine bdA ?_|refine bd2 ?_|refine bdR ?_|refine bdL ?_)<;>(conv=>whnf))|(refine And.intro ?_ ?_;rotate_left;(conv=>whnf);rotate_right))
     all_goals (try exact congrArg Value.bool hs)
   · rw [if_neg c1]
     dsimp only
     refine Ev1.of_fin cfg_ok Tryz.func100 rfl (nt:=40) rfl rfl rfl ?_
     conv=>whnf
     repeat' (first|exact trivial|((first|refine kL ?_|(refine ⟨fun hb=>?_,fun hb=>?_⟩<;>(try simp only [nrm] at hb)<;>(try (first|(exfalso;omega)|contradiction|exact kB hb)))|refine kA hu ?_|refine kD hu ?_|refine kW cfg_ok ?_|refine kC ?_|refine bdA ?_|refine bd2 ?_|refine bdR ?_|refine bdL ?_)<;>(conv=>whnf))|(refine And.intro ?_ ?_;rotate_left;(conv=>whnf);rotate_right))
     all_goals (try exact congrArg Value.bool hs)
     all_goals omega
theorem cnum0_ev (b : List (El .u8)) (most : Nat) (hb : okU8 b) (hl : b.length ≤ 1000000000000) (hm : most ≤ 2000000000000) : Ev1 Tryz.prog 182 [.ptr 0 0,i64 most] [(0,.box [.vec .u8 b,i64 0,.ff])] (i64 (numI b most ⟨0,false⟩).1) [(0,.box (rdC b (numI b most ⟨0,false⟩).2))]:=by
 have hu:=getU_api b 0 hb hl (Nat.zero_le _)
 obtain ⟨h1,h2⟩:=guN_le hb (pos:=0) (Nat.zero_le _)
 rw [numI_gu rfl]
 change Api _ _ [.vec .u8 b,i64 0] _ at hu
 dsimp only at *
 generalize guN b 0 = G at *
 obtain ⟨n,f,e⟩:=G
 dsimp only at *
 by_cases c1 : e = 0 ∧ n ≤ most
 · rw [if_pos c1]
   obtain ⟨rfl,c2⟩:=c1
   dsimp only
   refine Ev1.of_fin cfg_ok Tryz.func182 rfl (nt:=40) rfl rfl rfl ?_
   conv=>whnf
   repeat' (first|exact trivial|((first|refine kL ?_|(refine ⟨fun hb=>?_,fun hb=>?_⟩<;>(try simp only [nrm] at hb)<;>(try (first|(exfalso;omega)|contradiction|exact kB hb)))|refine kA hu ?_|refine kD hu ?_|refine kW cfg_ok ?_|refine kC ?_|refine bdA ?_|refine bd2 ?_|refine bdR ?_|refine bdL ?_)<;>(conv=>whnf))|(refine And.intro ?_ ?_;rotate_left;(conv=>whnf);rotate_right))
 · rw [if_neg c1]
   dsimp only
   refine Ev1.of_fin cfg_ok Tryz.func182 rfl (nt:=40) rfl rfl rfl ?_
   conv=>whnf
   repeat' (first|exact trivial|((first|refine kL ?_|(refine ⟨fun hb=>?_,fun hb=>?_⟩<;>(try simp only [nrm] at hb)<;>(try (first|(exfalso;omega)|contradiction|exact kB hb)))|refine kA hu ?_|refine kD hu ?_|refine kW cfg_ok ?_|refine kC ?_|refine bdA ?_|refine bd2 ?_|refine bdR ?_|refine bdL ?_)<;>(conv=>whnf))|(refine And.intro ?_ ?_;rotate_left;(conv=>whnf);rotate_right))
   all_goals first|rfl|omega
theorem cslot_ev (b : List (El .u8)) (s : Rd) (hb : okU8 b) (hl : b.length ≤ 1000000000000) (hp : s.pos ≤ b.length) : Ev1 Tryz.prog 183 [.ptr 0 0] [(0,.box (rdC b s))] (.agg [u8 (slotR b s).1.item,i64 (slotR b s).1.n]) [(0,.box (rdC b (slotR b s).2))]:=by
 have h1:=cnum_ev b s 255 hb hl hp (by omega)
 have hp1:=numI_pos hb (most:=255) hp
 have h2:=cnum_ev b (numI b 255 s).2 1000 hb hl hp1 (by omega)
 obtain ⟨l1,l2⟩:=numI_le (b:=b) (most:=255) (s:=s)
 unfold slotR
 generalize numI b 255 s = X at *
 dsimp only
 generalize numI b 1000 X.2 = Y at *
 refine Ev1.of_fin cfg_ok Tryz.func183 rfl (nt:=10) rfl rfl rfl ?_
 conv=>whnf
 repeat' (first|exact trivial|((first|refine kL ?_|(refine ⟨fun hb=>?_,fun hb=>?_⟩<;>(try simp only [nrm] at hb)<;>(try (first|(exfalso;omega)|contradiction|exact kB hb)))|refine kE h1 [(0,0)] rfl ?_|refine kF h1 [(0,0)] rfl ?_|refine kE h2 [(0,0)] rfl ?_|refine kF h2 [(0,0)] rfl ?_|refine kW cfg_ok ?_|refine kC ?_|refine bdA ?_|refine bd2 ?_|refine bdR ?_|refine bdL ?_)<;>(conv=>whnf))|(refine And.intro ?_ ?_;rotate_left;(conv=>whnf);rotate_right))
end Go.Proofs.YtaecchphjploaaaGreat
namespace Eng
open Go Go.RowKit
theorem evBlk {P : Program} {C : Cfg2} {base : Nat} {i : Nat} {x : Code} {Q : Post} {f : List AV} {m : Mem}
   (h : ∀ N : Post,(∀ f' m',Q .normal f' m' → N .normal f' m') → (∀ j f' m',(match Nat.beq j i with|true=>Q .normal f' m'|false=>Q (.exit j) f' m') → N (.exit j) f' m') → (∀ f' m',Q .ret f' m' → N .ret f' m') → ev P C base x N f m) : ev P C base (.block i x) Q f m:=by
 show ev P C base x _ f m
 exact h _ (fun _ _ h=>h) (fun _ _ _ h=>h) (fun _ _ h=>h)
theorem evCnd {P : Program} {C : Cfg2} {base : Nat} {c : Operand} {x y : Code} {Q : Post} {f : List AV} {m : Mem}
   (h : ∀ X Y : Prop,(ev P C base x Q f m → X) → (ev P C base y Q f m → Y) → avalK f c fun v=>match v with
     | .tt=>X
     | .ff=>Y
     | .lit (.bool b)=>(b = true → X) ∧ (b = false → Y)
     | .bl p q=>(p → X) ∧ (q → Y)
     | _=>False) : ev P C base (.cond c x y) Q f m:=
 h _ _ (fun h=>h) (fun h=>h)
end Eng
namespace Go.Proofs.YtaecchphjploaaaGreat
open Go Go.RowKit Eng
theorem slotR_pos {b : List Int} (hb : okU8 b) {s : Rd} (hp : s.pos ≤ b.length) : (slotR b s).2.pos ≤ b.length:=numI_pos hb (numI_pos hb hp)
theorem slotR_bd {b : List Int} {s : Rd} : (0 ≤ (slotR b s).1.item ∧ (slotR b s).1.item ≤ 255) ∧ 0 ≤ (slotR b s).1.n ∧ (slotR b s).1.n ≤ 1000:=⟨numI_le,numI_le⟩
theorem heapR_pos {b : List Int} (hb : okU8 b) {s : Rd} (hp : s.pos ≤ b.length) : (heapR b s).2.pos ≤ b.length:=slotR_pos hb (numI_pos hb hp)
theorem many_mem {α : Type} {f : Rd → α × Rd} {p : α → Prop} (h : ∀ s,p (f s).1) : ∀ (n : Nat) (s : Rd),(manyR f n s).1.length ≤ n ∧ ∀ x ∈ (manyR f n s).1,p x
 | 0,_=>⟨Nat.le_refl _,fun x hx=>by cases hx⟩
 | n + 1,s=>by
   unfold manyR
   split
   · exact ⟨Nat.zero_le _,fun x hx=>by cases hx⟩
   · obtain ⟨h1,h2⟩:=many_mem h n (f s).2
     refine ⟨by simp only [List.length_cons];omega,fun x hx=>?_⟩
     rcases List.mem_cons.1 hx with rfl|hx
     · exact h s
     · exact h2 x hx
theorem all_mem {α : Type} {f : Rd → α × Rd} {p : α → Prop} (h : ∀ s,p (f s).1) : ∀ (n : Nat) (s : Rd),(allR f n s).1.length = n ∧ ∀ x ∈ (allR f n s).1,p x
 | 0,_=>⟨rfl,fun x hx=>by cases hx⟩
 | n + 1,s=>by
   obtain ⟨h1,h2⟩:=all_mem h n (f s).2
   refine ⟨by simp only [allR,List.length_cons];omega,fun x hx=>?_⟩
   rcases List.mem_cons.1 hx with rfl|hx
   · exact h s
   · exact h2 x hx
theorem boxes_ok {b : List Int} : ∀ (l : List Int) (k : Nat) (s : Rd),(boxesR b l k s).1.length ≤ l.length ∧ ∀ x ∈ (boxesR b l k s).1,okBox x
 | [],_,_=>⟨Nat.le_refl _,fun x hx=>by cases hx⟩
 | i :: r,k,s=>by
   unfold boxesR
   split
   · obtain ⟨h1,h2⟩:=boxes_ok (b:=b) r (k + 1) (allR (slotR b) 6 s).2
     dsimp only
     refine ⟨by simp only [List.length_cons];omega,fun x hx=>?_⟩
     rcases List.mem_cons.1 hx with rfl|hx
     · obtain ⟨a1,a2⟩:=all_mem (f:=slotR b) (p:=okSlot) (fun s=>slotR_bd.1) 6 s
       exact ⟨a2,by show (allR (slotR b) 6 s).1.length ≤ big;rw [a1];unfold big;omega⟩
     · exact h2 x hx
   · obtain ⟨h1,h2⟩:=boxes_ok (b:=b) r (k + 1) s
     exact ⟨by simp only [List.length_cons];omega,h2⟩
theorem okC_K {b : List Int} (hb : okU8 b) : OkC (chunkK b):=by
 obtain ⟨h1,h2⟩:=many_mem (f:=heapR b) (p:=okHeap) (fun s=>(slotR_bd (s:=(numI b 1000 s).2)).1) (readK b).n.1.toNat (readK b).n.2
 obtain ⟨h3,h4⟩:=boxes_ok (b:=b) ((b.drop (readK b).y.2.pos).take 64) 0 (readK b).hs.2
 have h5 : (readK b).n.1 ≤ (1000 : Nat):=(numI_le (b:=b) (most:=1000)).2
 have h6 : ((b.drop (readK b).y.2.pos).take 64).length ≤ 64:=by rw [List.length_take];omega
 refine ⟨fun i hi=>hb i (List.mem_of_mem_drop (List.mem_of_mem_take hi)),h2,h4,?_,?_,?_⟩
 · show ((b.drop (readK b).y.2.pos).take 64).length ≤ big
   unfold big;omega
 · show (manyR (heapR b) (readK b).n.1.toNat (readK b).n.2).1.length ≤ big
   unfold big;omega
 · show (boxesR b ((b.drop (readK b).y.2.pos).take 64) 0 (readK b).hs.2).1.length ≤ big
   unfold big;omega
theorem many_next {α : Type} {f : Rd → α × Rd} {n : Nat} {s : Rd} (h : s.bad = false) : manyR f (n + 1) s = ((f s).1 :: (manyR f n (f s).2).1,(manyR f n (f s).2).2):=if_neg (by rw [h];simp)
theorem row_next {t : Ty} {D : List (El t)} {k : Nat} {e : El t} (h : k < D.length) (he : e = elt t D k) : List.take (k + (List.take 1 (List.drop 0 [e])).length) (List.take k (List.take k D) ++ List.take 1 (List.drop 0 [e])) = D.take (k + 1):=by
 rw [show List.take 1 (List.drop 0 [e]) = [e] from rfl,List.take_of_length_le (l:=List.take k D) (by rw [List.length_take];omega),List.take_of_length_le (by rw [List.length_append,List.length_take];simp;omega),List.take_add_one,elt_get t D k h,he]
 rfl
theorem row_grow {t : Ty} {l : List (El t)} {e : El t} : List.take (l.length + (List.take 1 (List.drop 0 [e])).length) (List.take l.length l ++ List.take 1 (List.drop 0 [e])) = l ++ [e]:=by
 rw [show List.take 1 (List.drop 0 [e]) = [e] from rfl,List.take_length,List.take_of_length_le (by rw [List.length_append];simp)]
theorem lendCb {P : Program} {fid : FuncId} {x y : Int} {D : List (El .u8)} {hs : List (El .heap)} {bs : List (El .box)} {n : Nat} {v : AV} (h : Api P fid [.agg [i64 x,i64 y,.vec .u8 D,.vec .heap hs,.vec .box bs]] v) (hn : n = bs.length) (hv : scalB v = true) :
   Ev1 P fid [.agg [i64 x,i64 y,.vec .u8 D,.vec .heap hs,.own .box 1 0 n none]] [(1,.row .box bs)] v [(1,.row .box bs)]:=by
 subst hn
 refine Api.lend h ?_ hv
 conv=>whnf
 refine ⟨by omega,?_⟩
 rw [List.drop_zero,List.take_length]
 rfl
theorem cread_api (b : List (El .u8)) (h8 : okU8 b) (hl : b.length ≤ 1000000000000) : Api Tryz.prog 154 [.vec .u8 b] (.tup [chunkV (readC b).1,i64 (readC b).2]):=by
 have hx:=cnum0_ev b 1000 h8 hl (by omega)
 have hy:=cnum_ev b (readK b).x.2 1000 h8 hl (numI_pos h8 (Nat.zero_le _)) (by omega)
 have hyp : (readK b).y.2.pos ≤ b.length:=numI_pos h8 (numI_pos h8 (Nat.zero_le _))
 have hok:=okC_K h8
 have hrt:=cright_api (chunkK b) hok
 unfold readC
 change Ev1 _ _ _ _ (i64 (readK b).x.1) [(0,.box (rdC b (readK b).x.2))] at hx
 change Ev1 _ _ _ _ (i64 (readK b).y.1) [(0,.box (rdC b (readK b).y.2))] at hy
 have e1 : (readK b).n = numI b 1000 ⟨(readK b).y.2.pos + 64,false⟩:=rfl
 have hn0 : 0 ≤ (readK b).n.1 ∧ (readK b).n.1 ≤ (1000 : Nat):=numI_le
 have e2 : (readK b).hs = manyR (heapR b) (readK b).n.1.toNat (readK b).n.2:=rfl
 have e3 : (readK b).bx = boxesR b ((b.drop (readK b).y.2.pos).take 64) 0 (readK b).hs.2:=rfl
 unfold chunkK at hok hrt ⊢
 generalize (readK b).y = Y at *
 obtain ⟨y,yp,yb⟩:=Y
 generalize (readK b).x = X at *
 obtain ⟨x,xp,xb⟩:=X
 dsimp only at *
 change Ev1 _ _ _ _ _ [(0,.box [.vec .u8 b,i64 xp,bol xb])] at hx
 change Ev1 _ _ _ [(0,.box [.vec .u8 b,i64 xp,bol xb])] _ [(0,.box [.vec .u8 b,i64 yp,bol yb])] at hy
 cases yb with
 | true =>
   rw [if_pos (.inl rfl)]
   clear hok hrt e1 e2 e3 hn0
   refine Api.of_fin cfg_ok Tryz.func154 rfl (nt:=146) rfl rfl ?_
   conv=>whnf
   repeat' (first|exact trivial|((first|refine kL ?_|(refine ⟨fun hb=>?_,fun hb=>?_⟩<;>(try simp only [nrm] at hb)<;>(try (first|(exfalso;omega)|contradiction|exact kB hb)))|refine kE hx [(0,30)] rfl ?_ (hrd:=⟨rfl,trivial⟩)|refine kF hx [(0,30)] rfl ?_ (hrd:=⟨rfl,trivial⟩)|refine kE hy [(0,30)] rfl ?_ (hrd:=⟨rfl,trivial⟩)|refine kF hy [(0,30)] rfl ?_ (hrd:=⟨rfl,trivial⟩)|refine kW cfg_ok ?_|refine kC ?_|refine bdA ?_|refine bd2 ?_|refine bdR ?_|refine bdL ?_)<;>(conv=>whnf))|(refine And.intro ?_ ?_;rotate_left;(conv=>whnf);rotate_right))
 | false =>
 by_cases c1 : b.length - yp < 64
 · rw [if_pos (.inr c1)]
   clear hok hrt e1 e2 e3 hn0
   refine Api.of_fin cfg_ok Tryz.func154 rfl (nt:=146) rfl rfl ?_
   conv=>whnf
   repeat' (first|exact trivial|((first|refine kL ?_|(refine ⟨fun hb=>?_,fun hb=>?_⟩<;>(try simp only [nrm] at hb)<;>(try (first|(exfalso;omega)|contradiction|exact kB hb)))|refine kE hx [(0,30)] rfl ?_ (hrd:=⟨rfl,trivial⟩)|refine kF hx [(0,30)] rfl ?_ (hrd:=⟨rfl,trivial⟩)|refine kE hy [(0,30)] rfl ?_ (hrd:=⟨rfl,trivial⟩)|refine kF hy [(0,30)] rfl ?_ (hrd:=⟨rfl,trivial⟩)|refine kW cfg_ok ?_|refine kC ?_|refine bdA ?_|refine bd2 ?_|refine bdR ?_|refine bdL ?_)<;>(conv=>whnf))|(refine And.intro ?_ ?_;rotate_left;(conv=>whnf);rotate_right))
 · rw [if_neg (by rintro (h|h);exact Bool.noConfusion h;exact c1 h)]
   have hyp2 : yp + 64 ≤ b.length:=by omega
   clear c1
   have hn:=cnum_ev b ⟨yp + 64,false⟩ 1000 h8 hl hyp2 (by omega)
   have hnp : (readK b).n.2.pos ≤ b.length:=by rw [e1];exact numI_pos h8 hyp2
   rw [← e1] at hn
   change Ev1 _ _ _ [(0,.box [.vec .u8 b,i64 (yp + 64 : Nat),bol false])] _ _ at hn
   have eD : (b.drop (yp : Int).toNat).take ((yp : Int) + 64 - yp).toNat = (b.drop yp).take 64:=by
     rw [Int.toNat_natCast,show ((yp : Int) + 64 - yp).toNat = 64 by omega]
   have hDl : ((b.drop yp).take 64).length = 64:=by rw [List.length_take,List.length_drop];omega
   generalize hD : (b.drop yp).take 64 = D at *
   clear e1
   generalize (readK b).n = N at *
   obtain ⟨n,np,nb⟩:=N
   dsimp only at *
   generalize (readK b).hs = HS at *
   generalize (readK b).bx = BX at *
   obtain ⟨xs,xq,xd⟩:=BX
   dsimp only at *
   refine Api.of_fin cfg_ok Tryz.func154 rfl (nt:=146) rfl rfl ?_
   conv=>whnf
   repeat' (first|exact trivial|((first|refine kL ?_|(refine ⟨fun hb=>?_,fun hb=>?_⟩<;>(try simp only [nrm] at hb)<;>(try (first|(exfalso;omega)|contradiction|exact kB hb)))|refine kE hx [(0,30)] rfl ?_ (hrd:=⟨rfl,trivial⟩)|refine kF hx [(0,30)] rfl ?_ (hrd:=⟨rfl,trivial⟩)|refine kE hy [(0,30)] rfl ?_ (hrd:=⟨rfl,trivial⟩)|refine kF hy [(0,30)] rfl ?_ (hrd:=⟨rfl,trivial⟩)|(rw [eD])|refine kW cfg_ok ?_|refine kC ?_|refine bdA ?_|refine bd2 ?_|refine bdR ?_|refine bdL ?_)<;>(conv=>whnf))|(refine And.intro ?_ ?_;rotate_left;(conv=>whnf);rotate_right))
   clear hx hy
   refine Runs.loopS cfg_ok (σ:=Nat) [0,2,4,5,47,48,49] (fun k=>[.vec .u8 b,.ptr 4 0,.ptr 30 0,.ptr 10 0,.vec .u8 D,i64 64,i64 k]) (fun k=>[(4,.box (chunkC emptyK)),(30,.box [.vec .u8 b,i64 yp,bol false]),(10,.box [i64 x,i64 y,.own .u8 115 0 k none,.lit (.slice none 0 0),.lit (.slice none 0 0)]),(115,.row .u8 (D.take k))]) (fun k=>k ≤ 64) (fun k=>64 - k) 0 (by omega) ?_ ?_
   · conv=>whnf
     repeat' (first|exact trivial|((first|refine kL ?_|(refine ⟨fun hb=>?_,fun hb=>?_⟩<;>(try simp only [nrm] at hb)<;>(try (first|(exfalso;omega)|contradiction|exact kB hb)))|refine kW cfg_ok ?_|refine kC ?_|refine bdA ?_|refine bd2 ?_|refine bdR ?_|refine bdL ?_)<;>(conv=>whnf))|(refine And.intro ?_ ?_;rotate_left;(conv=>whnf);rotate_right))
     all_goals rfl
   · intro k hk
     by_cases hlt : k < 64
     · conv=>whnf
       repeat' (first|exact trivial|((first|refine kL ?_|(refine ⟨fun hb=>?_,fun hb=>?_⟩<;>(try simp only [nrm] at hb)<;>(try (first|(exfalso;omega)|contradiction|exact kB hb)))|refine kW cfg_ok ?_|refine kC ?_|refine bdA ?_|refine bd2 ?_|refine bdR ?_|refine bdL ?_)<;>(conv=>whnf))|(refine And.intro ?_ ?_;rotate_left;(conv=>whnf);rotate_right))
       refine .to (k + 1) hlt (by omega) ?_
       conv=>whnf
       repeat' (first|exact trivial|((first|refine kL ?_|(refine ⟨fun hb=>?_,fun hb=>?_⟩<;>(try simp only [nrm] at hb)<;>(try (first|(exfalso;omega)|contradiction|exact kB hb)))|refine kW cfg_ok ?_|refine kC ?_|refine bdA ?_|refine bd2 ?_|refine bdR ?_|refine bdL ?_)<;>(conv=>whnf))|(refine And.intro ?_ ?_;rotate_left;(conv=>whnf);rotate_right))
       exact row_next (t:=.u8) (by omega) rfl
     · obtain rfl : k = 64:=by omega
       rw [List.take_of_length_le (by omega)]
       conv=>whnf
       repeat' (first|exact trivial|((first|refine kL ?_|(refine ⟨fun hb=>?_,fun hb=>?_⟩<;>(try simp only [nrm] at hb)<;>(try (first|(exfalso;omega)|contradiction|exact kB hb)))|refine kE hn [(0,30)] rfl ?_ (hrd:=⟨rfl,trivial⟩)|refine kF hn [(0,30)] rfl ?_ (hrd:=⟨rfl,trivial⟩)|refine kW cfg_ok ?_|refine kC ?_|refine bdA ?_|refine bd2 ?_|refine bdR ?_|refine bdL ?_)<;>(conv=>whnf))|(refine And.intro ?_ ?_;rotate_left;(conv=>whnf);rotate_right))
       clear hn eD hD
       refine Runs.loopS cfg_ok (σ:=List (El .heap) × Nat × Nat × Bool) [0,2,4,5,8] (fun (l,r,p,bd)=>[.vec .u8 b,.ptr 4 0,.ptr 30 0,.ptr 10 0,i64 r]) (fun (l,r,p,bd)=>[(4,.box (chunkC emptyK)),(30,.box [.vec .u8 b,i64 p,bol bd]),(10,.box [i64 x,i64 y,.vec .u8 D,.own .heap 350001 0 l.length none,.lit (.slice none 0 0)]),(350001,.row .heap l)])
         (fun (l,r,p,bd)=>p ≤ b.length ∧ l.length + r ≤ 1000 ∧ l ++ (manyR (heapR b) r ⟨p,bd⟩).1 = HS.1 ∧ (manyR (heapR b) r ⟨p,bd⟩).2 = HS.2) (fun (l,r,p,bd)=>r) ([],n.toNat,np,nb) ⟨hnp,by show 0 + n.toNat ≤ 1000;omega,by rw [e2];rfl,by rw [e2]⟩ ?_ ?_
       · conv=>whnf
         repeat' (first|exact trivial|((first|refine kL ?_|(refine ⟨fun hb=>?_,fun hb=>?_⟩<;>(try simp only [nrm] at hb)<;>(try (first|(exfalso;omega)|contradiction|exact kB hb)))|refine kW cfg_ok ?_|refine kC ?_|refine bdA ?_|refine bd2 ?_|refine bdR ?_|refine bdL ?_)<;>(conv=>whnf))|(refine And.intro ?_ ?_;rotate_left;(conv=>whnf);rotate_right))
         all_goals first|exact List.take_of_length_le (by rw [List.drop_zero];omega)|trace_state
       · rintro ⟨l,r,p,bd⟩ ⟨i1,i2,i3,i4⟩
         try dsimp only at i1 i2 i3 i4
         by_cases hlive : 0 < r ∧ bd = false
         · obtain ⟨hr0,rfl⟩:=hlive
           obtain ⟨r,rfl⟩ : ∃ r' : Nat,r = r' + 1:=⟨r - 1,by omega⟩
           rw [many_next rfl] at i3 i4
           have g1:=cnum_ev b ⟨p,false⟩ 1000 h8 hl i1 (by omega)
           have g2:=cslot_ev b (numI b 1000 ⟨p,false⟩).2 h8 hl (numI_pos h8 i1)
           have g3 : (heapR b ⟨p,false⟩).2.pos ≤ b.length:=heapR_pos h8 i1
           have g4 : heapR b ⟨p,false⟩ = (⟨(numI b 1000 ⟨p,false⟩).1,(slotR b (numI b 1000 ⟨p,false⟩).2).1⟩,(slotR b (numI b 1000 ⟨p,false⟩).2).2):=rfl
           rw [g4] at i3 i4 g3
           clear g4
           generalize numI b 1000 ⟨p,false⟩ = C at *
           generalize slotR b C.2 = S at *
           obtain ⟨c,cp,cb⟩:=C
           obtain ⟨⟨si,sn⟩,sp,sb⟩:=S
           try dsimp only at *
           change Ev1 _ _ _ [(0,.box [.vec .u8 b,i64 p,bol false])] _ [(0,.box [.vec .u8 b,i64 cp,bol cb])] at g1
           change Ev1 _ _ _ [(0,.box [.vec .u8 b,i64 cp,bol cb])] _ [(0,.box [.vec .u8 b,i64 sp,bol sb])] at g2
           conv=>whnf
           repeat' (first|exact trivial|((first|refine kL ?_|(refine ⟨fun hb=>?_,fun hb=>?_⟩<;>(try simp only [nrm] at hb)<;>(try (first|(exfalso;omega)|contradiction|exact kB hb)))|refine kE g1 [(0,30)] rfl ?_ (hrd:=⟨rfl,trivial⟩)|refine kF g1 [(0,30)] rfl ?_ (hrd:=⟨rfl,trivial⟩)|refine kE g2 [(0,30)] rfl ?_ (hrd:=⟨rfl,trivial⟩)|refine kF g2 [(0,30)] rfl ?_ (hrd:=⟨rfl,trivial⟩)|refine kW cfg_ok ?_|refine kC ?_|refine bdA ?_|refine bd2 ?_|refine bdR ?_|refine bdL ?_)<;>(conv=>whnf))|(refine And.intro ?_ ?_;rotate_left;(conv=>whnf);rotate_right))
           refine .to (l ++ [⟨c,⟨si,sn⟩⟩],r,sp,sb) ⟨g3,by show (l ++ [_]).length + r ≤ 1000;rw [List.length_append,List.length_singleton];omega,by rw [List.append_assoc];exact i3,i4⟩ (by first|omega|(dsimp only;omega)) ?_
           conv=>whnf
           repeat' (first|exact trivial|((first|refine kL ?_|(refine ⟨fun hb=>?_,fun hb=>?_⟩<;>(try simp only [nrm] at hb)<;>(try (first|(exfalso;omega)|contradiction|exact kB hb)))|refine kW cfg_ok ?_|refine kC ?_|refine bdA ?_|refine bd2 ?_|refine bdR ?_|refine bdL ?_)<;>(conv=>whnf))|(refine And.intro ?_ ?_;rotate_left;(conv=>whnf);rotate_right))
           · show Value.int _ (((r + 1 : Nat) : Int) - 1) = Value.int _ (r : Int)
             exact congrArg (Value.int _) (by omega)
           · exact row_grow (t:=.heap)
         · have hdead : l = HS.1 ∧ (⟨p,bd⟩ : Rd) = HS.2:=by
             cases bd with
             | true=>rw [many_stays _ _ rfl] at i3 i4;exact ⟨by rw [← i3];simp,i4⟩
             | false =>
               have : r = 0:=by by_cases h : 0 < r;exact absurd ⟨h,rfl⟩ hlive;omega
               subst this
               exact ⟨by rw [← i3];simp [manyR],i4⟩
           clear i3 i4
           obtain ⟨rfl,i4⟩:=hdead
           rw [← i4] at e3
           conv=>whnf
           repeat' (first|exact trivial|((first|refine kL ?_|(refine ⟨fun hb=>?_,fun hb=>?_⟩<;>(try simp only [nrm] at hb)<;>(try (first|(exfalso;omega)|contradiction|exact kB hb)))|refine kW cfg_ok ?_|refine kC ?_|refine bdA ?_|refine bd2 ?_|refine bdR ?_|refine bdL ?_)<;>(conv=>whnf))|(refine And.intro ?_ ?_;rotate_left;(conv=>whnf);rotate_right))
           all_goals (try (exact absurd ⟨by omega,by simpa using hb⟩ hlive))
           all_goals
             clear hn0 hnp
             refine Runs.loopS cfg_ok (σ:=List (El .box) × Nat × Nat × Bool) [0,2,4,5,92,93,94] (fun (q,k,p,bd)=>[.vec .u8 b,.ptr 4 0,.ptr 30 0,.ptr 10 0,.vec .u8 D,i64 64,i64 k]) (fun (q,k,p,bd)=>[(4,.box (chunkC emptyK)),(30,.box [.vec .u8 b,i64 p,bol bd]),(10,.box [i64 x,i64 y,.vec .u8 D,.vec .heap HS.1,.own .box 249 0 q.length none]),(249,.row .box q)])
               (fun (q,k,p,bd)=>k ≤ 64 ∧ p ≤ b.length ∧ q.length ≤ k ∧ q ++ (boxesR b (D.drop k) k ⟨p,bd⟩).1 = xs ∧ (boxesR b (D.drop k) k ⟨p,bd⟩).2 = ⟨xq,xd⟩) (fun (q,k,p,bd)=>64 - k) ([],0,p,bd) ⟨by omega,i1,by simp,(congrArg Prod.fst e3).symm,(congrArg Prod.snd e3).symm⟩ ?_ ?_
             · conv=>whnf
               repeat' (first|exact trivial|((first|refine kL ?_|(refine ⟨fun hb=>?_,fun hb=>?_⟩<;>(try simp only [nrm] at hb)<;>(try (first|(exfalso;omega)|contradiction|exact kB hb)))|refine kW cfg_ok ?_|refine kC ?_|refine bdA ?_|refine bd2 ?_|refine bdR ?_|refine bdL ?_)<;>(conv=>whnf))|(refine And.intro ?_ ?_;rotate_left;(conv=>whnf);rotate_right))
               all_goals first|exact List.take_length|exact row_grow (t:=.slot)|exact row_grow (t:=.heap)|exact congrArg (Value.int _) (by simp)|(rw [show List.take l.length (List.drop 0 l) = l from List.take_length];exact row_grow (t:=.box))|exact List.take_of_length_le (by rw [List.drop_zero];omega)
             · clear i1 i2 i4 e2 e3
               rintro ⟨q,k,p,bd⟩ ⟨j1,j2,j3,j4,j5⟩
               try dsimp only at j1 j2 j3 j4 j5
               by_cases hlk : k < 64
               · have hdr : D.drop k = elt .u8 D k :: D.drop (k + 1):=drop_elt (t:=.u8) (by omega)
                 rw [hdr] at j4 j5
                 unfold boxesR at j4 j5
                 obtain ⟨E,hE⟩ : ∃ E : Int,elt .u8 D (k : Int).toNat = E:=⟨_,rfl⟩
                 have hE2 : elt .u8 D k = E:=hE
                 rw [hE2] at j4 j5
                 by_cases h9 : E = 9 ∧ bd = false
                 · rw [if_pos h9] at j4 j5
                   obtain ⟨h9,rfl⟩:=h9
                   have hal : ∀ x : List (El .slot) × Rd,x = allR (slotR b) 6 ⟨p,false⟩ → q ++ ((⟨k,x.1⟩ : Box) :: (boxesR b (D.drop (k + 1)) (k + 1) x.2).1) = xs ∧ (boxesR b (D.drop (k + 1)) (k + 1) x.2).2 = ⟨xq,xd⟩:=fun x hx=>by rw [hx];exact ⟨j4,j5⟩
                   clear j4 j5
                   conv=>whnf
                   repeat' (first|exact trivial|((first|refine kL ?_|(refine ⟨fun hb=>?_,fun hb=>?_⟩<;>(try simp only [nrm] at hb)<;>(try (first|(exfalso;omega)|contradiction|exact kB hb)))|(rw [hE])|refine kW cfg_ok ?_|refine kC ?_|refine bdA ?_|refine bd2 ?_|refine bdR ?_|refine bdL ?_)<;>(conv=>whnf))|(refine And.intro ?_ ?_;rotate_left;(conv=>whnf);rotate_right))
                   refine Runs.loopS cfg_ok (σ:=List (El .slot) × Nat × Bool) [0,2,4,5,12,92,93,94,110] (fun (l,t,u)=>[.vec .u8 b,.ptr 4 0,.ptr 30 0,.ptr 10 0,.ptr 24 0,.vec .u8 D,i64 64,i64 k,i64 l.length]) (fun (l,t,u)=>[(4,.box (chunkC emptyK)),(30,.box [.vec .u8 b,i64 t,bol u]),(10,.box [i64 x,i64 y,.vec .u8 D,.vec .heap HS.1,.own .box 249 0 q.length none]),(249,.row .box q),(24,.box [i64 k,.own .slot 350005 0 l.length none]),(350005,.row .slot l)])
                     (fun (l,t,u)=>l.length ≤ 6 ∧ t ≤ b.length ∧ (l ++ (allR (slotR b) (6 - l.length) ⟨t,u⟩).1,(allR (slotR b) (6 - l.length) ⟨t,u⟩).2) = allR (slotR b) 6 ⟨p,false⟩) (fun (l,t,u)=>6 - l.length) ([],p,false) ⟨by simp,j2,rfl⟩ ?_ ?_
                   · conv=>whnf
                     repeat' (first|exact trivial|((first|refine kL ?_|(refine ⟨fun hb=>?_,fun hb=>?_⟩<;>(try simp only [nrm] at hb)<;>(try (first|(exfalso;omega)|contradiction|exact kB hb)))|refine kW cfg_ok ?_|refine kC ?_|refine bdA ?_|refine bd2 ?_|refine bdR ?_|refine bdL ?_)<;>(conv=>whnf))|(refine And.intro ?_ ?_;rotate_left;(conv=>whnf);rotate_right))
                     all_goals first|exact List.take_length|exact row_grow (t:=.slot)|exact row_grow (t:=.heap)|exact congrArg (Value.int _) (by simp)|(rw [show List.take l.length (List.drop 0 l) = l from List.take_length];exact row_grow (t:=.box))|exact List.take_of_length_le (by rw [List.drop_zero];omega)
                   · rintro ⟨l,t,u⟩ ⟨m1,m2,m3⟩
                     try dsimp only at m1 m2 m3
                     by_cases hl6 : l.length < 6
                     · have g1:=cslot_ev b ⟨t,u⟩ h8 hl m2
                       have g3 : (slotR b ⟨t,u⟩).2.pos ≤ b.length:=slotR_pos h8 m2
                       have g4 : allR (slotR b) (6 - l.length) ⟨t,u⟩ = ((slotR b ⟨t,u⟩).1 :: (allR (slotR b) (6 - (l.length + 1)) (slotR b ⟨t,u⟩).2).1,(allR (slotR b) (6 - (l.length + 1)) (slotR b ⟨t,u⟩).2).2):=by
                         rw [show 6 - l.length = (6 - (l.length + 1)) + 1 by omega];rfl
                       rw [g4] at m3
                       clear g4
                       generalize slotR b ⟨t,u⟩ = S at *
                       obtain ⟨⟨si,sn⟩,sp,sb⟩:=S
                       try dsimp only at *
                       change Ev1 _ _ _ [(0,.box [.vec .u8 b,i64 t,bol u])] _ [(0,.box [.vec .u8 b,i64 sp,bol sb])] at g1
                       conv=>whnf
                       repeat' (first|exact trivial|((first|refine kL ?_|(refine ⟨fun hb=>?_,fun hb=>?_⟩<;>(try simp only [nrm] at hb)<;>(try (first|(exfalso;omega)|contradiction|exact kB hb)))|refine kE g1 [(0,30)] rfl ?_ (hrd:=⟨rfl,trivial⟩)|refine kF g1 [(0,30)] rfl ?_ (hrd:=⟨rfl,trivial⟩)|refine kW cfg_ok ?_|refine kC ?_|refine bdA ?_|refine bd2 ?_|refine bdR ?_|refine bdL ?_)<;>(conv=>whnf))|(refine And.intro ?_ ?_;rotate_left;(conv=>whnf);rotate_right))
                       refine .to (l ++ [⟨si,sn⟩],sp,sb) ⟨by rw [List.length_append,List.length_singleton];omega,g3,by rw [List.append_assoc,List.length_append,List.length_singleton];exact m3⟩ (by first|(rw [List.length_append,List.length_singleton];omega)|(dsimp only;rw [List.length_append,List.length_singleton];omega)) ?_
                       conv=>whnf
                       repeat' (first|exact trivial|((first|refine kL ?_|(refine ⟨fun hb=>?_,fun hb=>?_⟩<;>(try simp only [nrm] at hb)<;>(try (first|(exfalso;omega)|contradiction|exact kB hb)))|refine kW cfg_ok ?_|refine kC ?_|refine bdA ?_|refine bd2 ?_|refine bdR ?_|refine bdL ?_)<;>(conv=>whnf))|(refine And.intro ?_ ?_;rotate_left;(conv=>whnf);rotate_right))
                       all_goals first|exact List.take_length|exact row_grow (t:=.slot)|exact row_grow (t:=.heap)|exact congrArg (Value.int _) (by simp)|(rw [show List.take l.length (List.drop 0 l) = l from List.take_length];exact row_grow (t:=.box))|exact List.take_of_length_le (by rw [List.drop_zero];omega)
                     · have hl6 : l.length = 6:=by omega
                       rw [hl6] at m3
                       obtain ⟨n4,n5⟩:=hal (l,⟨t,u⟩) (by rw [← m3];simp [allR])
                       clear m3 hal
                       conv=>whnf
                       repeat' (first|exact trivial|((first|refine kL ?_|(refine ⟨fun hb=>?_,fun hb=>?_⟩<;>(try simp only [nrm] at hb)<;>(try (first|(exfalso;omega)|contradiction|exact kB hb)))|refine kW cfg_ok ?_|refine kC ?_|refine bdA ?_|refine bd2 ?_|refine bdR ?_|refine bdL ?_)<;>(conv=>whnf))|(refine And.intro ?_ ?_;rotate_left;(conv=>whnf);rotate_right))
                       refine .to (q ++ [⟨k,l⟩],k + 1,t,u) ⟨hlk,m2,by rw [List.length_append,List.length_singleton];omega,by rw [List.append_assoc];exact n4,n5⟩ (by first|omega|(dsimp only;omega)) ?_
                       conv=>whnf
                       repeat' (first|exact trivial|((first|refine kL ?_|(refine ⟨fun hb=>?_,fun hb=>?_⟩<;>(try simp only [nrm] at hb)<;>(try (first|(exfalso;omega)|contradiction|exact kB hb)))|refine kW cfg_ok ?_|refine kC ?_|refine bdA ?_|refine bd2 ?_|refine bdR ?_|refine bdL ?_)<;>(conv=>whnf))|(refine And.intro ?_ ?_;rotate_left;(conv=>whnf);rotate_right))
                       all_goals first|exact List.take_length|exact row_grow (t:=.slot)|exact row_grow (t:=.heap)|exact congrArg (Value.int _) (by simp)|(rw [show List.take l.length (List.drop 0 l) = l from List.take_length];exact row_grow (t:=.box))|exact List.take_of_length_le (by rw [List.drop_zero];omega)
                 · rw [if_neg h9] at j4 j5
                   conv=>whnf
                   repeat' (first|exact trivial|((first|refine kL ?_|(refine ⟨fun hb=>?_,fun hb=>?_⟩<;>(try simp only [nrm] at hb)<;>(try (first|(exfalso;omega)|contradiction|exact kB hb)))|(rw [hE])|refine kW cfg_ok ?_|refine kC ?_|refine bdA ?_|refine bd2 ?_|refine bdR ?_|refine bdL ?_)<;>(conv=>whnf))|(refine And.intro ?_ ?_;rotate_left;(conv=>whnf);rotate_right))
                   all_goals (try (exact absurd ⟨‹E = 9›,by simpa using hb⟩ h9))
                   all_goals
                     refine .to (q,k + 1,p,bd) ⟨hlk,j2,by omega,j4,j5⟩ (by first|omega|(dsimp only;omega)) ?_
                     conv=>whnf
                     repeat' (first|exact trivial|((first|refine kL ?_|(refine ⟨fun hb=>?_,fun hb=>?_⟩<;>(try simp only [nrm] at hb)<;>(try (first|(exfalso;omega)|contradiction|exact kB hb)))|refine kW cfg_ok ?_|refine kC ?_|refine bdA ?_|refine bd2 ?_|refine bdR ?_|refine bdL ?_)<;>(conv=>whnf))|(refine And.intro ?_ ?_;rotate_left;(conv=>whnf);rotate_right))
                   all_goals first|exact List.take_length|exact row_grow (t:=.slot)|exact row_grow (t:=.heap)|exact congrArg (Value.int _) (by simp)|(rw [show List.take l.length (List.drop 0 l) = l from List.take_length];exact row_grow (t:=.box))|exact List.take_of_length_le (by rw [List.drop_zero];omega)
               · obtain rfl : k = 64:=by omega
                 rw [List.drop_of_length_le (by omega)] at j4 j5
                 unfold boxesR at j4 j5
                 obtain ⟨rfl,rfl⟩:=Rd.mk.inj j5
                 rw [show q ++ ([] : List Box) = q from List.append_nil q] at j4
                 clear j5
                 subst j4
                 have hR2:=lendCb hrt rfl rfl
                 generalize rightB ⟨x,y,D,HS.1,q⟩ = R at *
                 by_cases hfin : bd = true ∨ ¬ p = b.length ∨ R = false
                 · rw [if_pos hfin]
                   rcases hfin with rfl|hfin|rfl
                   all_goals
                     conv=>whnf
                     repeat' (first|exact trivial|((first|refine kL ?_|(refine ⟨fun hb=>?_,fun hb=>?_⟩<;>(try simp only [nrm] at hb)<;>(try (first|(exfalso;omega)|contradiction|exact kB hb)))|refine kE hR2 [(1,249)] rfl ?_ (hrd:=⟨rfl,trivial⟩)|refine kF hR2 [(1,249)] rfl ?_ (hrd:=⟨rfl,trivial⟩)|refine kW cfg_ok ?_|refine kC ?_|refine bdA ?_|refine bd2 ?_|refine bdR ?_|refine bdL ?_)<;>(conv=>whnf))|(refine And.intro ?_ ?_;rotate_left;(conv=>whnf);rotate_right))
                 · rw [if_neg hfin]
                   rw [not_or,not_or] at hfin
                   obtain ⟨f1,f2,f3⟩:=hfin
                   have f1 : bd = false:=by simpa using f1
                   have f3 : R = true:=by simpa using f3
                   have f2 : (p : Int) = b.length:=by omega
                   subst f1 f3
                   conv=>whnf
                   repeat' (first|exact trivial|((first|refine kL ?_|(refine ⟨fun hb=>?_,fun hb=>?_⟩<;>(try simp only [nrm] at hb)<;>(try (first|(exfalso;omega)|contradiction|exact kB hb)))|refine kE hR2 [(1,249)] rfl ?_ (hrd:=⟨rfl,trivial⟩)|refine kF hR2 [(1,249)] rfl ?_ (hrd:=⟨rfl,trivial⟩)|refine kW cfg_ok ?_|refine kC ?_|refine bdA ?_|refine bd2 ?_|refine bdR ?_|refine bdL ?_)<;>(conv=>whnf))|(refine And.intro ?_ ?_;rotate_left;(conv=>whnf);rotate_right))
                   all_goals exact List.take_length
end Go.Proofs.YtaecchphjploaaaGreat
