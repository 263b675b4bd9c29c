/- The rules as Lean functions, and their plain laws. -/
import Derived.Test.YtkojlembanldcaaGreatGg
import Derived.Test.YtkojlembanldcaaGreatGh
import Derived.Test.YtkojlembanldcaaGreatGc
set_option linter.unusedSimpArgs false
set_option linter.unusedVariables false
set_option maxRecDepth 100000
set_option maxHeartbeats 4000000
namespace Go.Proofs.YtkojlembanldcaaGreat
open Go Go.RowKit Eng
def rngB (lo hi n : Int) : Bool:=decide (lo ≤ n) && decide (n ≤ hi)
def zeroB (n : Int) : Bool:=decide (n = 0)
def rightD (c : Cmd) : Bool:=
 if c.dol = 1 ∨ c.dol = 5 ∨ c.dol = 10 ∨ c.dol = 12 ∨ c.dol = 13 then zeroB c.a && (zeroB c.b && (zeroB c.c && zeroB c.n))
 else if c.dol = 2 then rngB (-1) 1 c.a && (rngB (-1) 1 c.b && (zeroB c.c && zeroB c.n))
 else if c.dol = 3 then rngB 0 127 c.a && (rngB 0 127 c.b && (zeroB c.c && zeroB c.n))
 else if c.dol = 4 then rngB 0 127 c.a && (rngB 0 127 c.b && (rngB 0 7 c.c && zeroB c.n))
 else if c.dol = 6 then zeroB c.a && (zeroB c.b && (rngB 0 7 c.c && rngB 1 1000 c.n))
 else if c.dol = 7 ∨ c.dol = 8 then rngB 0 127 c.a && (rngB 0 127 c.b && (rngB 0 7 c.c && rngB 1 1000 c.n))
 else if c.dol = 9 then zeroB c.a && (zeroB c.b && (rngB 0 1000 c.c && zeroB c.n))
 else if c.dol = 11 then rngB 0 1073741824 c.a && (zeroB c.b && (rngB 0 7 c.c && rngB 1 1000 c.n))
 else false
def spendR (i : Int) : List Slot → Int → List Slot
 | [],_=>[]
 | s :: r,n=>if n ≤ 0 then s :: r else if s.item = i then lessS s (min s.n n) :: spendR i r (n - min s.n n) else s :: spendR i r n
def spendL (l : List Slot) (i n : Int) : List Slot:=(spendR i l.reverse n).reverse
def spendS (l : List Slot) (i n : Int) : List Slot × Int:=
 if bagOk l = false then (l,103) else if n < 1 then (l,111) else if countS l i < n then (l,105) else (spendL l i n,0)
def recipesL : List (List Slot × Slot):=[([⟨3,1⟩],⟨5,4⟩),([⟨5,2⟩],⟨6,4⟩),([⟨5,8⟩],⟨9,1⟩),([⟨6,1⟩,⟨7,1⟩],⟨10,4⟩),([⟨7,1⟩,⟨3,1⟩],⟨8,1⟩),([⟨6,2⟩,⟨8,3⟩],⟨12,1⟩),([⟨2,4⟩,⟨1,1⟩],⟨7,1⟩)]
def recipeN (n : Int) : Option (List Slot × Slot):=if n < 0 then none else recipesL[n.toNat]?
def makeS (l : List Slot) (n : Int) : List Slot × Int:=
 if bagOk l = false then (l,103) else match recipeN n with
   | none=>(l,112)
   | some (wants,makes)=>if wants.any (fun s=>decide (countS l s.item < s.n)) = true then (l,105)
     else if 0 < (putS (wants.foldl (fun b s=>(spendS b s.item s.n).1) l) makes.item makes.n).2 then (l,104)
     else ((putS (wants.foldl (fun b s=>(spendS b s.item s.n).1) l) makes.item makes.n).1,0)
def nearP (p : Player) (x y : Int) : Bool:=decide (max (x - p.x) (-(x - p.x)) ≤ 3) && decide (max (y - p.y) (-(y - p.y)) ≤ 3)
def placeC (w : Wld) (x y : Int) : Chunk:=(chunkW w (x / 8) (y / 8)).1
def placeI (x y : Int) : Int:=y % 8 * 8 + x % 8
def aimE (w : Wld) (p : Player) (x y : Int) : Int:=if withinW w.size x y = false then 102 else if nearP p x y = false then 106 else 0
def keepA (w : Wld) (k : Chunk) (p : Player) : Wld × Int:=if ¬ (putW w k).2 = 0 then (w,(putW w k).2) else setW (putW w k).1 p
def moveA (w : Wld) (p : Player) (c : Cmd) : Wld × Int:=
 if withinW w.size (p.x + c.a) (p.y + c.b) = false then (w,102) else if ¬ (atW w (p.x + c.a) (p.y + c.b)).1 = 0 then (w,107)
 else setW w { p with x:=p.x + c.a,y:=p.y + c.b }
abbrev cellA (k : Chunk) (i : Int) : Int:=elt .u8 k.cells i.toNat
def breakA (w : Wld) (p : Player) (c : Cmd) : Wld × Int:=
 if ¬ aimE w p c.a c.b = 0 then (w,aimE w p c.a c.b) else
 if cellA (placeC w c.a c.b) (placeI c.a c.b) = 0 then (w,107) else
 if ¬ (setC (placeC w c.a c.b) (placeI c.a c.b) 0).2 = 0 then (w,(setC (placeC w c.a c.b) (placeI c.a c.b) 0).2) else
 if 0 < (putS p.bag (givesI (cellA (placeC w c.a c.b) (placeI c.a c.b))) 1).2 then (w,104) else
 keepA w (setC (placeC w c.a c.b) (placeI c.a c.b) 0).1 { p with bag:=(putS p.bag (givesI (cellA (placeC w c.a c.b) (placeI c.a c.b))) 1).1 }
def standsB (c : Cmd) (q : Player) : Bool:=decide (q.x = c.a) && decide (q.y = c.b)
def placeA (w : Wld) (p : Player) (c : Cmd) : Wld × Int:=
 if ¬ aimE w p c.a c.b = 0 then (w,aimE w p c.a c.b) else
 if ¬ (takeS p.bag c.c 1).2.2 = 0 then (w,(takeS p.bag c.c 1).2.2) else
 if blockB (takeS p.bag c.c 1).2.1.item = false then (w,100) else
 if ¬ cellA (placeC w c.a c.b) (placeI c.a c.b) = 0 ∨ w.players.any (standsB c) = true then (w,107) else
 if ¬ (setC (placeC w c.a c.b) (placeI c.a c.b) (takeS p.bag c.c 1).2.1.item).2 = 0 then (w,(setC (placeC w c.a c.b) (placeI c.a c.b) (takeS p.bag c.c 1).2.1.item).2) else
 keepA w (setC (placeC w c.a c.b) (placeI c.a c.b) (takeS p.bag c.c 1).2.1.item).1 { p with bag:=(takeS p.bag c.c 1).1 }
def dropA (w : Wld) (p : Player) (c : Cmd) : Wld × Int:=
 if ¬ (takeS p.bag c.c c.n).2.2 = 0 then (w,(takeS p.bag c.c c.n).2.2) else
 if ¬ (dropC (placeC w p.x p.y) (placeI p.x p.y) (takeS p.bag c.c c.n).2.1).2 = 0 then (w,(dropC (placeC w p.x p.y) (placeI p.x p.y) (takeS p.bag c.c c.n).2.1).2) else
 keepA w (dropC (placeC w p.x p.y) (placeI p.x p.y) (takeS p.bag c.c c.n).2.1).1 { p with bag:=(takeS p.bag c.c c.n).1 }
def pickA (cell : Int) : List Slot → Chunk × List Slot × Bool → Chunk × List Slot × Bool
 | [],a=>a
 | s :: r,(k,b,z)=>pickA cell r (if 0 < (putS b s.item s.n).2 then (dropC k cell ⟨s.item,(putS b s.item s.n).2⟩).1 else k,(putS b s.item s.n).1,z || decide ((putS b s.item s.n).2 < s.n))
def takeA (w : Wld) (p : Player) : Wld × Int:=
 let k:=liftC (placeC w p.x p.y) (placeI p.x p.y)
 if k.2.length = 0 then (w,105) else
 let r:=pickA (placeI p.x p.y) k.2 (k.1,p.bag,false)
 if r.2.2 = false then (w,104) else keepA w r.1 { p with bag:=r.2.1 }
def movedA (fr to_ : List Slot) (a n : Int) : List Slot × List Slot × Int:=
 if ¬ (takeS fr a n).2.2 = 0 then ([],[],(takeS fr a n).2.2) else
 if 0 < (putS to_ (takeS fr a n).2.1.item (takeS fr a n).2.1.n).2 then ([],[],104) else
 ((takeS fr a n).1,(putS to_ (takeS fr a n).2.1.item (takeS fr a n).2.1.n).1,0)
def storeA (w : Wld) (p : Player) (c : Cmd) : Wld × Int:=
 if ¬ aimE w p c.a c.b = 0 then (w,aimE w p c.a c.b) else
 if (boxC (placeC w c.a c.b) (placeI c.a c.b)).2 = false then (w,107) else
 let m:=if c.dol = 7 then movedA p.bag (boxC (placeC w c.a c.b) (placeI c.a c.b)).1 c.c c.n else movedA (boxC (placeC w c.a c.b) (placeI c.a c.b)).1 p.bag c.c c.n
 if ¬ m.2.2 = 0 then (w,m.2.2) else
 let b:=if c.dol = 7 then m.2.1 else m.1
 let q:=if c.dol = 7 then m.1 else m.2.1
 if ¬ (fillC (placeC w c.a c.b) (placeI c.a c.b) b).2 = 0 then (w,(fillC (placeC w c.a c.b) (placeI c.a c.b) b).2) else
 keepA w (fillC (placeC w c.a c.b) (placeI c.a c.b) b).1 { p with bag:=q }
def craftA (w : Wld) (p : Player) (c : Cmd) : Wld × Int:=if ¬ (makeS p.bag c.c).2 = 0 then (w,(makeS p.bag c.c).2) else setW w { p with bag:=(makeS p.bag c.c).1 }
def eatA (w : Wld) (p : Player) : Wld × Int:=if ¬ (spendS p.bag 11 1).2 = 0 then (w,(spendS p.bag 11 1).2) else setW w { p with bag:=(spendS p.bag 11 1).1 }
def dealA (w : Wld) (p : Player) (c : Cmd) : Wld × Int:=
 let wth:=if c.dol = 11 then c.a else p.wth
 if (playerW w wth).2 = false then (w,if c.dol = 11 then 110 else 108) else
 let q:=(playerW w wth).1
 if ¬ c.dol = 13 ∧ nearP p q.x q.y = false then (w,106) else
 let r : Player × Player × Int:=if c.dol = 11 then offerP p q c.c c.n else if c.dol = 12 then ((agreeP p q).1,(agreeP p q).2.1,(agreeP p q).2.2.2) else cancelP p q
 if ¬ r.2.2 = 0 then (w,r.2.2) else
 if ¬ (setW w r.2.1).2 = 0 then (w,(setW w r.2.1).2) else setW (setW w r.2.1).1 r.1
def actA (w : Wld) (p : Player) (c : Cmd) : Wld × Int:=
 if c.dol = 2 then moveA w p c else if c.dol = 3 then breakA w p c else if c.dol = 4 then placeA w p c else if c.dol = 5 then takeA w p else if c.dol = 6 then dropA w p c
 else if c.dol = 7 ∨ c.dol = 8 then storeA w p c else if c.dol = 9 then craftA w p c else if c.dol = 10 then eatA w p else dealA w p c
def applyW (w : Wld) (id : Int) (c : Cmd) : Wld × Int:=
 if rightW w = false then (w,113) else if rightD c = false then (w,109)
 else if (playerW w id).2 = decide (c.dol = 1) then (w,110)
 else if c.dol = 1 then setW w ⟨id,spawnX w.size id,0,newB8,-1,[],false⟩
 else if ¬ (actA w (playerW w id).1 c).2 = 0 then (w,(actA w (playerW w id).1 c).2) else ((actA w (playerW w id).1 c).1,0)
open Go Go.RowKit Eng
theorem set_good {w : Wld} {p : Player} (h : (setW w p).2 = 0) : setOk w p ∧ (setW w p).1 = withP w (setL w.players p):=by
 have hk : setOk w p:=by
   rcases set_err w p with h1|⟨_,h1⟩
   · exact h1.1
   · rcases h1 with h1|h1|h1<;>(have:=h1.1;omega)
 exact ⟨hk,by rw [set_eq hk]⟩
theorem put_good {w : Wld} {c : Chunk} (h : (putW w c).2 = 0) : RW w ∧ rightB c = true ∧ max c.x c.y < w.size ∧ (putW w c).1 = withCs w (putL w.seed w.chunks c):=by
 rcases put_err w c with h1|⟨_,h1⟩
 · exact ⟨h1.1,h1.2.1,h1.2.2.1,by rw [put_eq h1.1 h1.2.1 h1.2.2.1]⟩
 · rcases h1 with h1|h1<;>(have:=h1.1;omega)
theorem keep_good {w : Wld} {k : Chunk} {p : Player} (h : (keepA w k p).2 = 0) : RW w ∧ rightB k = true ∧ max k.x k.y < w.size ∧ setOk (withCs w (putL w.seed w.chunks k)) p ∧
   (keepA w k p).1 = withP (withCs w (putL w.seed w.chunks k)) (setL w.players p):=by
 unfold keepA at h ⊢
 by_cases h1 : (putW w k).2 = 0
 · rw [if_neg (not_not_intro h1)] at h ⊢
   obtain ⟨a1,a2,a3,a4⟩:=put_good h1
   obtain ⟨b1,b2⟩:=set_good h
   rw [a4] at b1 b2 ⊢
   exact ⟨a1,a2,a3,b1,b2⟩
 · rw [if_pos h1] at h;exact absurd h h1
theorem keep_rw {w : Wld} {k : Chunk} {p : Player} (h : (keepA w k p).2 = 0) : RW (keepA w k p).1:=by
 obtain ⟨_,_,_,h4,h5⟩:=keep_good h
 rw [h5];exact rw_set h4
theorem set_rw {w : Wld} {p : Player} (h : (setW w p).2 = 0) : RW (setW w p).1:=by
 obtain ⟨h1,h2⟩:=set_good h
 rw [h2];exact rw_set h1
def GoodA (r : Wld × Int) : Prop:=r.2 = 0 → RW r.1
theorem good_err {w : Wld} {e : Int} (h : ¬ e = 0) : GoodA (w,e):=fun h2=>absurd h2 h
theorem good_set (w : Wld) (p : Player) : GoodA (setW w p):=set_rw
theorem good_keep (w : Wld) (k : Chunk) (p : Player) : GoodA (keepA w k p):=keep_rw
theorem good_ite {c : Prop} [Decidable c] {a b : Wld × Int} (h1 : c → GoodA a) (h2 : ¬ c → GoodA b) : GoodA (if c then a else b):=by
 by_cases h : c
 · rw [if_pos h];exact h1 h
 · rw [if_neg h];exact h2 h
theorem moveA_good (w : Wld) (p : Player) (c : Cmd) : GoodA (moveA w p c):=by
 unfold moveA
 exact good_ite (fun h=>good_err (by decide)) (fun _=>good_ite (fun h=>good_err (by decide)) (fun _=>good_set _ _))
theorem breakA_good (w : Wld) (p : Player) (c : Cmd) : GoodA (breakA w p c):=by
 unfold breakA
 exact good_ite (fun h=>good_err (h)) (fun _=>good_ite (fun h=>good_err (by decide)) (fun _=>good_ite (fun h=>good_err (h)) (fun _=>good_ite (fun h=>good_err (by decide)) (fun _=>good_keep _ _ _))))
theorem placeA_good (w : Wld) (p : Player) (c : Cmd) : GoodA (placeA w p c):=by
 unfold placeA
 exact good_ite (fun h=>good_err (h)) (fun _=>good_ite (fun h=>good_err (h)) (fun _=>good_ite (fun h=>good_err (by decide)) (fun _=>good_ite (fun h=>good_err (by decide)) (fun _=>good_ite (fun h=>good_err (h)) (fun _=>good_keep _ _ _)))))
theorem dropA_good (w : Wld) (p : Player) (c : Cmd) : GoodA (dropA w p c):=by
 unfold dropA
 exact good_ite (fun h=>good_err (h)) (fun _=>good_ite (fun h=>good_err (h)) (fun _=>good_keep _ _ _))
theorem takeA_good (w : Wld) (p : Player) : GoodA (takeA w p):=by
 unfold takeA
 exact good_ite (fun h=>good_err (by decide)) (fun _=>good_ite (fun h=>good_err (by decide)) (fun _=>good_keep _ _ _))
theorem storeA_good (w : Wld) (p : Player) (c : Cmd) : GoodA (storeA w p c):=by
 unfold storeA
 exact good_ite (fun h=>good_err (h)) (fun _=>good_ite (fun h=>good_err (by decide)) (fun _=>good_ite (fun h=>good_err (h)) (fun _=>good_ite (fun h=>good_err (h)) (fun _=>good_keep _ _ _))))
theorem craftA_good (w : Wld) (p : Player) (c : Cmd) : GoodA (craftA w p c):=by
 unfold craftA
 exact good_ite (fun h=>good_err (h)) (fun _=>good_set _ _)
theorem eatA_good (w : Wld) (p : Player) : GoodA (eatA w p):=by
 unfold eatA
 exact good_ite (fun h=>good_err (h)) (fun _=>good_set _ _)
theorem dealA_good (w : Wld) (p : Player) (c : Cmd) : GoodA (dealA w p c):=by
 unfold dealA
 exact good_ite (fun h=>good_err (by split<;>decide)) (fun _=>good_ite (fun h=>good_err (by decide)) (fun _=>good_ite (fun h=>good_err (h)) (fun _=>good_ite (fun h=>good_err (h)) (fun _=>good_set _ _))))
theorem act_good (w : Wld) (p : Player) (c : Cmd) : GoodA (actA w p c):=by
 unfold actA
 exact good_ite (fun _=>moveA_good _ _ _) fun _=>good_ite (fun _=>breakA_good _ _ _) fun _=>good_ite (fun _=>placeA_good _ _ _) fun _=>good_ite (fun _=>takeA_good _ _) fun _=>good_ite (fun _=>dropA_good _ _ _) fun _ =>
   good_ite (fun _=>storeA_good _ _ _) fun _=>good_ite (fun _=>craftA_good _ _ _) fun _=>good_ite (fun _=>eatA_good _ _) fun _=>dealA_good _ _ _
theorem act_rw {w : Wld} {p : Player} {c : Cmd} (h : (actA w p c).2 = 0) : RW (actA w p c).1:=act_good w p c h
theorem apply_rw {w : Wld} {id : Int} {c : Cmd} (hR : rightW w = true) : RW (applyW w id c).1:=by
 have hRW:=rightW_iff.1 hR
 unfold applyW
 rw [if_neg (by rw [hR];simp)]
 split
 · exact hRW
 · split
   · exact hRW
   · split
     · by_cases h : (setW w ⟨id,spawnX w.size id,0,newB8,-1,[],false⟩).2 = 0
       · exact set_rw h
       · rcases set_err w ⟨id,spawnX w.size id,0,newB8,-1,[],false⟩ with h1|h1
         · exact absurd h1.2 h
         · rw [h1.1];exact hRW
     · split
       · exact hRW
       · rename_i h;exact act_rw (Decidable.not_not.1 h)
theorem apply_err {w : Wld} {id : Int} {c : Cmd} (h : ¬ (applyW w id c).2 = 0) : (applyW w id c).1 = w:=by
 unfold applyW at h ⊢
 repeat' split
 all_goals first|rfl|skip
 · rename_i h1 h2 h3 h4
   rw [if_neg h1,if_neg h2,if_neg h3,if_pos h4] at h
   rcases set_err w ⟨id,spawnX w.size id,0,newB8,-1,[],false⟩ with h1|h1
   · exact absurd h1.2 h
   · exact h1.1
 · rename_i h1 h2 h3 h4 h5
   rw [if_neg h1,if_neg h2,if_neg h3,if_neg h4,if_neg h5] at h
   exact absurd rfl h
open Go Go.RowKit Eng
def addI (C : List Int) (s : Slot) : List Int:=C.set s.item.toNat (elt .i64 C s.item.toNat + s.n)
def inN (b n : Int) : Prop:=0 ≤ n ∧ n ≤ b
structure CntOk (C : List Int) (b : Int) : Prop where
 len : C.length = 13
 bd : ∀ i,i < 13 → inN b (elt .i64 C i)
def fitS (s : Slot) : Prop:=0 ≤ s.item ∧ s.item ≤ 12 ∧ 0 ≤ s.n ∧ s.n ≤ 16
theorem elt_addI {C : List Int} {s : Slot} (hl : C.length = 13) (hs : fitS s) (i : Nat) : elt .i64 (addI C s) i = if i = s.item.toNat then elt .i64 C i + s.n else elt .i64 C i:=by
 unfold addI
 obtain ⟨h0,h1,_,_⟩:=hs
 by_cases h : i = s.item.toNat
 · rw [if_pos h];subst h
   unfold elt
   rw [List.getElem?_set_self (by omega)];rfl
 · rw [if_neg h]
   unfold elt
   rw [List.getElem?_set_ne (fun e=>h e.symm)]
theorem CntOk.mono {C : List Int} {b c : Int} (h : CntOk C b) (hb : b ≤ c) : CntOk C c:=⟨h.len,fun i hi=>by have:=h.bd i hi;unfold inN at *;omega⟩
theorem CntOk.add {C : List Int} {b : Int} {s : Slot} (h : CntOk C b) (hs : fitS s) : CntOk (addI C s) (b + 16):=by
 refine ⟨by unfold addI;rw [List.length_set];exact h.len,fun i hi=>?_⟩
 rw [elt_addI h.len hs]
 have:=h.bd i hi
 obtain ⟨_,_,h2,h3⟩:=hs
 unfold inN at *
 split<;>omega
theorem CntOk.foldl {l : List Slot} : ∀ {C : List Int} {b : Int},CntOk C b → (∀ s ∈ l,fitS s) → CntOk (l.foldl addI C) (b + 16 * l.length):=by
 induction l with
 | nil=>intro C b h _;simpa using h
 | cons a r ih =>
   intro C b h hs
   have:=ih (h.add (hs a (by simp))) fun s hm=>hs s (List.mem_cons_of_mem _ hm)
   rw [List.foldl_cons]
   refine this.mono ?_
   rw [List.length_cons];omega
abbrev cntF (a : Nat) : AV:=.clo (.func 115) [] [.ptr a 0]
open Go Go.RowKit Eng
def slotsP (l : List Player) : List Slot:=l.flatMap fun p=>p.bag ++ p.offer
def slotsC (l : List Chunk) : List Slot:=l.flatMap fun c=>c.heaps.map (·.slot) ++ c.boxes.flatMap (·.bag)
def slotsW (w : Wld) : List Slot:=slotsP w.players ++ slotsC w.chunks
abbrev zeros13 : List Int:=List.replicate 13 0
def lgP (w : Wld) (k : Nat) : List Slot:=slotsP (w.players.take k)
def lgC (w : Wld) (k : Nat) : List Slot:=slotsP w.players ++ slotsC (w.chunks.take k)
def lgH (w : Wld) (k j : Nat) : List Slot:=lgC w k ++ ((elt .chunk w.chunks k).heaps.take j).map (·.slot)
def lgB (w : Wld) (k j : Nat) : List Slot:=lgH w k (elt .chunk w.chunks k).heaps.length ++ ((elt .chunk w.chunks k).boxes.take j).flatMap (·.bag)
theorem lgP_end (w : Wld) : lgP w w.players.length = lgC w 0:=by unfold lgP lgC slotsC;rw [List.take_length];simp
theorem lgP_succ {w : Wld} {k : Nat} (h : k < w.players.length) : lgP w (k + 1) = lgP w k ++ ((elt .player w.players k).bag ++ (elt .player w.players k).offer):=by
 unfold lgP slotsP
 rw [List.take_add_one,elt_get .player _ _ h,Option.toList_some,List.flatMap_append];simp
theorem lgH_zero (w : Wld) (k : Nat) : lgH w k 0 = lgC w k:=by unfold lgH;simp
theorem lgH_succ {w : Wld} {k j : Nat} (h : j < (elt .chunk w.chunks k).heaps.length) : lgH w k (j + 1) = lgH w k j ++ [(elt .heap (elt .chunk w.chunks k).heaps j).slot]:=by
 unfold lgH
 rw [List.take_add_one,elt_get .heap _ _ h,Option.toList_some,List.map_append,← List.append_assoc];rfl
theorem lgB_zero (w : Wld) (k : Nat) : lgB w k 0 = lgH w k (elt .chunk w.chunks k).heaps.length:=by unfold lgB;simp
theorem lgB_succ {w : Wld} {k j : Nat} (h : j < (elt .chunk w.chunks k).boxes.length) : lgB w k (j + 1) = lgB w k j ++ (elt .box (elt .chunk w.chunks k).boxes j).bag:=by
 unfold lgB
 rw [List.take_add_one,elt_get .box _ _ h,Option.toList_some,List.flatMap_append,← List.append_assoc];simp
theorem lgB_end {w : Wld} {k : Nat} (h : k < w.chunks.length) : lgB w k (elt .chunk w.chunks k).boxes.length = lgC w (k + 1):=by
 unfold lgB lgH lgC slotsC
 rw [List.take_length,List.take_length,List.take_add_one,elt_get .chunk _ _ h,Option.toList_some,List.flatMap_append];simp
theorem lgC_end (w : Wld) : lgC w w.chunks.length = slotsW w:=by unfold lgC slotsW;rw [List.take_length]
structure FitW (w : Wld) : Prop where
 bag : ∀ p ∈ w.players,∀ s ∈ p.bag,fitS s
 offer : ∀ p ∈ w.players,∀ s ∈ p.offer,fitS s
 heap : ∀ c ∈ w.chunks,∀ h ∈ c.heaps,fitS h.slot
 box : ∀ c ∈ w.chunks,∀ b ∈ c.boxes,∀ s ∈ b.bag,fitS s
theorem mem_slotsP {l : List Player} {s : Slot} (h : s ∈ slotsP l) : ∃ p ∈ l,s ∈ p.bag ∨ s ∈ p.offer:=by
 unfold slotsP at h
 rw [List.mem_flatMap] at h
 obtain ⟨p,hp,hs⟩:=h
 exact ⟨p,hp,List.mem_append.1 hs⟩
theorem mem_slotsC {l : List Chunk} {s : Slot} (h : s ∈ slotsC l) : ∃ c ∈ l,(∃ h ∈ c.heaps,h.slot = s) ∨ ∃ b ∈ c.boxes,s ∈ b.bag:=by
 unfold slotsC at h
 rw [List.mem_flatMap] at h
 obtain ⟨c,hc,hs⟩:=h
 refine ⟨c,hc,(List.mem_append.1 hs).imp ?_ ?_⟩
 · intro h;rw [List.mem_map] at h;exact h
 · intro h;rw [List.mem_flatMap] at h;exact h
theorem FitW.fit {w : Wld} (h : FitW w) : ∀ s ∈ slotsW w,fitS s:=by
 intro s hs
 rcases List.mem_append.1 hs with hs|hs
 · obtain ⟨p,hp,hs⟩:=mem_slotsP hs
   rcases hs with hs|hs
   · exact h.bag p hp s hs
   · exact h.offer p hp s hs
 · obtain ⟨c,hc,hs⟩:=mem_slotsC hs
   rcases hs with ⟨x,hx,rfl⟩|⟨b,hb,hs⟩
   · exact h.heap c hc x hx
   · exact h.box c hc b hb s hs
theorem pre_lgC (w : Wld) (k : Nat) : lgC w k <+: slotsW w:=by
 unfold lgC slotsW
 rw [List.prefix_append_right_inj]
 unfold slotsC
 conv=>rhs;rw [← List.take_append_drop k w.chunks,List.flatMap_append]
 exact List.prefix_append _ _
theorem pre_lgP (w : Wld) (k : Nat) : lgP w k <+: slotsW w:=by
 refine List.IsPrefix.trans ?_ (pre_lgC w 0)
 unfold lgP lgC slotsC
 simp only [List.take_zero,List.flatMap_nil,List.append_nil]
 unfold slotsP
 conv=>rhs;rw [← List.take_append_drop k w.players,List.flatMap_append]
 exact List.prefix_append _ _
theorem pre_lgB {w : Wld} {k : Nat} (h : k < w.chunks.length) (j : Nat) : lgB w k j <+: slotsW w:=by
 refine List.IsPrefix.trans ?_ (pre_lgC w (k + 1))
 rw [← lgB_end h]
 unfold lgB
 rw [List.prefix_append_right_inj]
 conv=>rhs;rw [List.take_length,← List.take_append_drop j (elt .chunk w.chunks k).boxes,List.flatMap_append]
 exact List.prefix_append _ _
theorem pre_lgH {w : Wld} {k : Nat} (h : k < w.chunks.length) (j : Nat) : lgH w k j <+: slotsW w:=by
 refine List.IsPrefix.trans ?_ (pre_lgB h 0)
 rw [lgB_zero]
 unfold lgH
 rw [List.prefix_append_right_inj]
 conv=>rhs;rw [List.take_length,← List.take_append_drop j (elt .chunk w.chunks k).heaps,List.map_append]
 exact List.prefix_append _ _
theorem bag_le {w : Wld} {p : Player} (h : p ∈ w.players) : p.bag.length + p.offer.length ≤ (slotsW w).length:=by
 obtain ⟨a,b,e⟩:=List.append_of_mem h
 unfold slotsW slotsP
 rw [e,List.flatMap_append,List.flatMap_cons]
 simp only [List.length_append]
 omega
open Go Go.RowKit Eng
def niceS (s : Slot) : Prop:=0 ≤ s.item ∧ s.item ≤ 12 ∧ 0 ≤ s.n ∧ s.n ≤ stackN s.item
theorem niceS.fit {s : Slot} (h : niceS s) : fitS s:=by have:=stackN_bd s.item;unfold niceS at h;unfold fitS;omega
theorem nice_bag {l : List Slot} (h : bagOk l = true) (hw : ∀ s ∈ l,okSlot s) : ∀ s ∈ l,niceS s:=by
 intro s hs
 unfold bagOk at h
 rw [Bool.not_eq_true',List.any_eq_false] at h
 have h1:=h s hs
 have h2:=hw s hs
 unfold badSlot at h1
 unfold okSlot at h2
 unfold niceS
 by_cases h3 : s.item = 0 ∧ s.n = 0
 · rw [h3.1,h3.2];unfold stackN;simp
 · have h4 : 1 ≤ s.n ∧ s.n ≤ stackN s.item:=by
     by_cases h5 : s.n < 1
     · exfalso;apply h1
       rw [decide_eq_true h5]
       have : (s.item == 0 && s.n == 0) = false:=by
         rw [Bool.and_eq_false_iff]
         by_cases h6 : s.item = 0
         · right;rw [beq_eq_false_iff_ne];intro h7;exact h3 ⟨h6,h7⟩
         · left;rw [beq_eq_false_iff_ne];exact h6
       rw [this];rfl
     · by_cases h6 : stackN s.item < s.n
       · exfalso;apply h1
         rw [decide_eq_true h6]
         have : (s.item == 0 && s.n == 0) = false:=by
           rw [Bool.and_eq_false_iff];right;rw [beq_eq_false_iff_ne];omega
         rw [this,Bool.or_true];rfl
       · omega
   unfold stackN at *
   (repeat' split at *)<;>omega
theorem nice_some {s : Slot} (h : someB s = true) (hw : okSlot s) : niceS s:=by
 unfold someB at h
 rw [Bool.and_eq_true,decide_eq_true_eq,decide_eq_true_eq] at h
 unfold okSlot at hw
 unfold niceS stackN at *
 (repeat' split at *)<;>omega
theorem rightGo_mem : ∀ (l : List Int) (k : Nat) (bs rest : List Box),rightGo l k bs = some rest → ∀ b ∈ bs,b ∈ rest ∨ ((b.bag.length : Int) = 6 ∧ bagOk b.bag = true)
 | [],_,bs,rest,h,b,hb=>by unfold rightGo at h;exact .inl (Option.some.inj h ▸ hb)
 | i :: r,k,bs,rest,h,b,hb=>by
   unfold rightGo at h
   split at h
   · split at h
     · cases bs with
       | nil=>cases h
       | cons c t =>
         simp only at h
         split at h
         · rename_i hbx
           rcases List.mem_cons.1 hb with rfl|hb
           · unfold boxAt at hbx
             rw [Bool.and_eq_true,Bool.and_eq_true,decide_eq_true_eq] at hbx
             exact .inr hbx.2
           · exact rightGo_mem r (k + 1) t rest h b hb
         · cases h
     · exact rightGo_mem r (k + 1) bs rest h b hb
   · cases h
theorem right_parts {c : Chunk} (h : rightB c = true) : (∀ b ∈ c.boxes,(b.bag.length : Int) = 6 ∧ bagOk b.bag = true) ∧ (∀ x ∈ c.heaps,badHeap x = false) ∧ headB c = true:=by
 unfold rightB at h
 rw [Bool.and_eq_true] at h
 obtain ⟨h1,h2⟩:=h
 split at h2
 · rename_i hg
   refine ⟨fun b hb=>?_,?_,h1⟩
   · rcases rightGo_mem _ _ _ _ hg b hb with h|h
     · cases h
     · exact h
   · rw [Bool.not_eq_true',List.any_eq_false] at h2
     intro x hx;have:=h2 x hx;rwa [Bool.not_eq_true] at this
 · cases h2
theorem sound_parts {p : Player} (h : soundB p = true) : 0 ≤ p.id ∧ p.id ≤ 1073741824 ∧ (p.bag.length : Int) = 8 ∧ bagOk p.bag = true ∧ ((p.wth = -1 ∧ p.offer = [] ∧ p.agrees = false) ∨ (0 ≤ p.wth ∧ p.wth ≤ 1073741824 ∧ p.wth ≠ p.id ∧ (p.offer.length : Int) = 8 ∧ bagOk p.offer = true)):=by
 unfold soundB bag8 at h
 by_cases hw : p.wth = -1
 · rw [if_pos hw] at h
   simp only [Bool.and_eq_true,decide_eq_true_eq,Bool.not_eq_true'] at h
   obtain ⟨h1,h2,⟨h3,h4⟩,h5,h6⟩:=h
   exact ⟨h1,h2,h3,h4,.inl ⟨hw,List.length_eq_zero_iff.1 (by omega),h6⟩⟩
 · rw [if_neg hw] at h
   simp only [Bool.and_eq_true,decide_eq_true_eq,Bool.not_eq_true',decide_eq_false_iff_not] at h
   obtain ⟨h1,h2,⟨h3,h4⟩,h5,h6,h7,h8,h9⟩:=h
   exact ⟨h1,h2,h3,h4,.inr ⟨h5,h6,h7,h8,h9⟩⟩
theorem nice_world {w : Wld} (h : RW w) (hw : OkW w) : ∀ s ∈ slotsW w,niceS s:=by
 intro s hs
 rcases List.mem_append.1 hs with hs|hs
 · obtain ⟨p,hp,hs⟩:=mem_slotsP hs
   obtain ⟨_,_,_,h4,h5⟩:=sound_parts (h.players p hp).1
   have hok:=hw.players p hp
   rcases hs with hs|hs
   · exact nice_bag h4 hok.bag s hs
   · rcases h5 with ⟨_,h5,_⟩|⟨_,_,_,_,h5⟩
     · rw [h5] at hs;cases hs
     · exact nice_bag h5 hok.offer s hs
 · obtain ⟨c,hc,hs⟩:=mem_slotsC hs
   obtain ⟨h1,h2,_⟩:=right_parts (h.chunks c hc).1
   have hok:=hw.chunks c hc
   rcases hs with ⟨x,hx,rfl⟩|⟨b,hb,hs⟩
   · have h3:=h2 x hx
     unfold badHeap at h3
     rw [Bool.or_eq_false_iff,Bool.not_eq_false',Bool.not_eq_false'] at h3
     exact nice_some h3.2 (hok.heaps x hx)
   · exact nice_bag (h1 b hb).2 (hok.boxes b hb).1 s hs
def slotsN (w : Wld) : Nat:=((w.players.map fun p=>p.bag.length + p.offer.length).sum) + ((w.chunks.map fun c=>c.heaps.length + 6 * c.boxes.length).sum)
theorem sum_box {l : List Box} (h : ∀ b ∈ l,(b.bag.length : Int) = 6) : (l.flatMap (·.bag)).length = 6 * l.length:=by
 induction l with
 | nil=>rfl
 | cons b r ih =>
   have:=h b (by simp)
   rw [List.flatMap_cons,List.length_append,ih fun x hx=>h x (List.mem_cons_of_mem _ hx),List.length_cons]
   omega
theorem slotsN_eq {w : Wld} (h : RW w) : (slotsW w).length = slotsN w:=by
 unfold slotsW slotsN slotsP slotsC
 rw [List.length_append,List.length_flatMap,List.length_flatMap]
 congr 2
 · apply List.map_congr_left;intro p _;rw [List.length_append]
 · apply List.map_congr_left
   intro c hc
   rw [List.length_append,List.length_map,sum_box fun b hb=>((right_parts (h.chunks c hc).1).1 b hb).1]
theorem zeros_elt (i : Nat) (h : i < 13) : elt .i64 zeros13 i = (0 : Int):=by
 unfold elt;rw [List.getElem?_replicate];rw [if_pos h];rfl
open Go Go.RowKit Eng
theorem itemOk_bd {i : Int} (h : itemOk i = true) : 0 ≤ i ∧ i ≤ 12:=by
 unfold itemOk blockB at h
 simp only [Bool.or_eq_true,beq_iff_eq,Bool.and_eq_true,decide_eq_true_eq] at h
 omega
theorem someB_ok {s : Slot} (h : someB s = true) : okSlot s ∧ 1 ≤ s.n ∧ s.n ≤ 16:=by
 simp only [someB,Bool.and_eq_true,decide_eq_true_eq] at h
 have:=stackN_bd s.item
 exact ⟨stackN_item (by omega),by omega,by omega⟩
theorem right_heap {c : Chunk} (h : rightB c = true) {x : Heap} (hx : x ∈ c.heaps) : someB x.slot = true ∧ 0 ≤ x.cell ∧ x.cell < 64:=by
 have hh:=((right_iff c).1 h).2.2
 rw [List.any_eq_false] at hh
 have h2:=hh x hx
 simp only [badHeap,Bool.or_eq_true,Bool.not_eq_true',not_or,Bool.not_eq_false,Bool.and_eq_true,decide_eq_true_eq] at h2
 exact ⟨h2.2,h2.1⟩
theorem okC_right {c : Chunk} (h : rightB c = true) : OkC c:=by
 refine ⟨fun i hi=>by have:=itemOk_bd ((right_fits h).items i hi);omega,fun x hx=>(someB_ok (right_heap h hx).1).1,fun b hb=>?_,?_,?_,?_⟩
 · obtain ⟨h1,h2⟩:=right_bag h hb
   exact ⟨bagOk_okSlot h2,by rw [h1];unfold big;omega⟩
 · rw [right_len h];unfold big;omega
 · have:=right_heaps h;unfold big;omega
 · have:=right_boxes h;unfold big;omega
theorem okP_sound {p : Player} (h : soundB p = true) : OkP p:=by
 obtain ⟨_,_,h3,h4,h5⟩:=sound_parts h
 refine ⟨bagOk_okSlot h4,?_,by omega,?_⟩
 · rcases h5 with ⟨_,h,_⟩|⟨_,_,_,_,h⟩
   · rw [h];simp
   · exact bagOk_okSlot h
 · rcases h5 with ⟨_,h,_⟩|⟨_,_,_,h,_⟩
   · rw [h];simp
   · omega
theorem okW_rw {w : Wld} (h : RW w) : OkW w:=
 ⟨fun c hc=>okC_right (h.chunks c hc).1,fun c hc=>fitC_right (h.chunks c hc).1,fun p hp=>okP_sound (h.players p hp).1,by have:=h.few;omega,by have:=h.size;omega⟩
theorem cellI_ok (s x y : Int) : itemOk (cellI s x y) = true ∧ cellI s x y ≠ 9:=by
 unfold cellI
 simp only []
 (repeat' split)<;>exact ⟨by decide,by decide⟩
theorem right_gen {s x y : Int} (hx : 0 ≤ x ∧ x < 16) (hy : 0 ≤ y ∧ y < 16) : rightB (genC s x y) = true:=by
 rw [right_iff]
 have hl : (gl s x y 64).length = 64:=gl_len _ _ _ _
 have hm : ∀ i ∈ gl s x y 64,itemOk i = true ∧ i ≠ 9:=by
   intro i hi
   unfold gl at hi
   rw [List.mem_map] at hi
   obtain ⟨j,_,rfl⟩:=hi
   exact cellI_ok _ _ _
 refine ⟨?_,⟨fun i hi=>(hm i hi).1,trivial,by simp [genC],fun j hj=>?_⟩,rfl⟩
 · unfold headB
   rw [show (genC s x y).cells.length = 64 from hl,show (genC s x y).heaps.length = 0 from rfl,show (genC s x y).x = x from rfl,show (genC s x y).y = y from rfl]
   simp only [Bool.and_eq_true,decide_eq_true_eq]
   omega
 · have hj' : j < (gl s x y 64).length:=hj
   have hg : (genC s x y).cells.getD j 0 = (gl s x y 64)[j]:=by
     show (gl s x y 64).getD j 0 = _
     rw [List.getD_eq_getElem?_getD,List.getElem?_eq_getElem hj'];rfl
   rw [hg]
   have:=(hm _ (List.getElem_mem hj')).2
   simp [genC,getB,this]
theorem placeI_bd (x y : Int) : 0 ≤ placeI x y ∧ placeI x y < 64:=by unfold placeI;omega
theorem chunk_right {w : Wld} {x y : Int} (hR : RW w) (hx : 0 ≤ x ∧ x < w.size) (hy : 0 ≤ y ∧ y < w.size) : rightB (chunkW w x y).1 = true:=by
 have hs:=hR.size
 rw [(chunkW_in hR hx hy).1]
 dsimp only
 cases hg : getK keyC w.chunks (keyC (atC x y)) with
 | none=>exact right_gen (by omega) (by omega)
 | some c=>exact (hR.chunks c (getK_mem hg).1).1
theorem place_right {w : Wld} {x y : Int} (hR : RW w) (h : withinW w.size x y = true) : rightB (placeC w x y) = true ∧ (placeC w x y).x = x / 8 ∧ (placeC w x y).y = y / 8:=by
 have h1:=(within_iff hR).1 h
 obtain ⟨_,h3,h4⟩:=chunkW_in hR (x:=x / 8) (y:=y / 8) (by omega) (by omega)
 exact ⟨chunk_right hR (by omega) (by omega),h3,h4⟩
theorem aim_in {w : Wld} {p : Player} {x y : Int} (h : aimE w p x y = 0) : withinW w.size x y = true ∧ nearP p x y = true:=by
 unfold aimE at h
 split at h
 · omega
 · rename_i h1
   split at h
   · omega
   · rename_i h2
     exact ⟨Bool.not_eq_false _ ▸ h1,Bool.not_eq_false _ ▸ h2⟩
theorem rightH {c : Chunk} (h : rightB c = true) {l : List Heap} (hl : l.length ≤ 32) (hb : l.any badHeap = false) : rightB { c with heaps:=l } = true:=by
 obtain ⟨h1,h2,h3⟩:=(right_iff c).1 h
 rw [right_iff]
 refine ⟨?_,h2,hb⟩
 simp only [headB,Bool.and_eq_true,decide_eq_true_eq] at h1 ⊢
 exact ⟨h1.1,h1.2.1,h1.2.2.1,h1.2.2.2.1,h1.2.2.2.2.1,by omega⟩
theorem drop_right {c : Chunk} (h : rightB c = true) {t : Int} {s : Slot} (ht : 0 ≤ t ∧ t < 64) : rightB (dropC c t s).1 = true:=by
 unfold dropC
 rw [if_neg (by rw [h];simp),if_neg (by omega)]
 cases hs : someB s with
 | false=>rw [if_pos rfl];exact h
 | true =>
   rw [if_neg (by simp)]
   by_cases h32 : 32 ≤ c.heaps.length
   · rw [if_pos h32];exact h
   · rw [if_neg h32]
     refine rightH h (by simp;omega) ?_
     rw [List.any_append,((right_iff c).1 h).2.2]
     simp [badHeap,hs,ht]
theorem fill_right {c : Chunk} (h : rightB c = true) (t : Int) (l : List Slot) : rightB (fillC c t l).1 = true:=by
 rw [fillC_right h]
 split
 · exact h
 · rename_i h1
   split
   · exact h
   · rename_i h2
     exact right_upd h (by
       rw [there_iff (right_fits h).up]
       cases hh : (getB c.boxes t).isSome with
       | true=>rfl
       | false=>exact absurd hh h1) (by simpa using h2)
theorem lift_right {c : Chunk} (h : rightB c = true) (t : Int) : rightB (liftC c t).1 = true ∧ ∀ s ∈ (liftC c t).2,someB s = true:=by
 unfold liftC
 rw [if_pos h]
 refine ⟨rightH h (Nat.le_trans (List.length_filter_le _ _) (right_heaps h)) ?_,fun s hs=>?_⟩
 · have hh:=((right_iff c).1 h).2.2
   rw [List.any_eq_false] at hh ⊢
   exact fun x hx=>hh x (List.mem_filter.1 hx).1
 · simp only [hitsH,List.mem_map] at hs
   obtain ⟨x,hx,rfl⟩:=hs
   exact (right_heap h (List.mem_filter.1 hx).1).1
theorem box_right {c : Chunk} (h : rightB c = true) {t : Int} (hb : (boxC c t).2 = true) : (boxC c t).1.length = 6 ∧ bagOk (boxC c t).1 = true:=by
 rw [boxC_get h] at hb ⊢
 dsimp only at hb ⊢
 obtain ⟨s,hs⟩:=Option.isSome_iff_exists.1 hb
 obtain ⟨b,h1,_,h3⟩:=getB_mem hs
 rw [hs]
 show s.length = 6 ∧ bagOk s = true
 rw [← h3]
 exact right_bag h h1
theorem okP_bag {p : Player} (h : OkP p) {l : List Slot} (h1 : ∀ s ∈ l,okSlot s) (h2 : l.length * 16 ≤ 140737488351232) : OkP { p with bag:=l }:=⟨h1,h.offer,h2,h.no⟩
theorem mayB_in {w : Wld} {p : Player} (hR : RW w) (h : soundB p = true) (h2 : withinW w.size p.x p.y = true) : mayB p = true:=by
 have h3:=(within_iff hR).1 h2
 have hs:=hR.size
 unfold mayB withinW
 rw [h,Bool.true_and,wr8_eq (by omega) (by omega)]
 simp only [Bool.and_eq_true,decide_eq_true_eq]
 omega
theorem offer_same {p q : Player} (h : p.id = q.id) (a n : Int) : offerP p q a n = (p,q,110):=by
 unfold offerP dealB;rw [decide_eq_true h];rfl
theorem agree_same {p q : Player} (h : p.id = q.id) : agreeP p q = (p,q,false,110):=by
 unfold agreeP dealB;rw [decide_eq_true h];rfl
theorem cancel_same {p q : Player} (h : p.id = q.id) : cancelP p q = (p,q,110):=by
 unfold cancelP dealB;rw [decide_eq_true h];rfl
theorem offer_may {p q : Player} (hp : mayB p = true) (hq : mayB q = true) (a n : Int) : mayB (offerP p q a n).1 = true ∧ mayB (offerP p q a n).2.1 = true:=by
 by_cases h : p.id = q.id
 · rw [offer_same h];exact ⟨hp,hq⟩
 · have:=offer_kept hp hq h a n;exact ⟨this.ma,this.mb⟩
theorem agree_may {p q : Player} (hp : mayB p = true) (hq : mayB q = true) : mayB (agreeP p q).1 = true ∧ mayB (agreeP p q).2.1 = true:=by
 by_cases h : p.id = q.id
 · rw [agree_same h];exact ⟨hp,hq⟩
 · have:=(agree_kept hp hq h).1;exact ⟨this.ma,this.mb⟩
theorem cancel_may {p q : Player} (hp : mayB p = true) (hq : mayB q = true) : mayB (cancelP p q).1 = true ∧ mayB (cancelP p q).2.1 = true:=by
 have:=cancel_kept hp hq;exact ⟨this.ma,this.mb⟩
open Go Go.RowKit Eng
def sumF {α : Type} (f : α → Int) : List α → Int
 | []=>0
 | a :: r=>f a + sumF f r
def cO {α : Type} (f : α → Int) : Option α → Int
 | some b=>f b
 | none=>0
theorem sumF_ins {α : Type} {key : α → Int} (f : α → Int) (x : α) : ∀ l : List α,sumF f (insK key x l) = f x + sumF f l
 | []=>rfl
 | b :: r=>by
   have ih:=sumF_ins (key:=key) f x r
   simp only [insK]
   split<;>simp only [sumF,ih]
   omega
theorem sumF_del {α : Type} {key : α → Int} (f : α → Int) {t : Int} : ∀ {l : List α},risesK key l → sumF f (delK key t l) = sumF f l - cO f (getK key l t)
 | [],_=>rfl
 | b :: r,h=>by
   have ih:=sumF_del f (t:=t) h.2
   simp only [delK,getK]
   by_cases h1 : key b < t
   · rw [if_pos h1,if_neg (show ¬ key b = t by omega)]
     simp only [sumF,ih];omega
   · rw [if_neg h1]
     by_cases h2 : key b = t
     · rw [if_pos h2,if_pos h2];simp only [sumF,cO];omega
     · rw [if_neg h2,if_neg h2,getK_none.2 fun x hx=>by have:=h.1 x hx;omega]
       simp only [cO];omega
def pc (i : Int) (p : Player) : Int:=countS p.bag i + countS p.offer i
def bc (i : Int) (b : Box) : Int:=countS b.bag i
def cc (i : Int) (c : Chunk) : Int:=countS (c.heaps.map (·.slot)) i + sumF (bc i) c.boxes
def tw (i : Int) (w : Wld) : Int:=sumF (pc i) w.players + sumF (cc i) w.chunks
theorem count_boxes (i : Int) : ∀ l : List Box,countS (l.flatMap (·.bag)) i = sumF (bc i) l
 | []=>rfl
 | b :: r=>by rw [List.flatMap_cons,countS_app,count_boxes i r];rfl
theorem count_slotsP (i : Int) : ∀ l : List Player,countS (slotsP l) i = sumF (pc i) l
 | []=>rfl
 | b :: r=>by
   have ih:=count_slotsP i r
   unfold slotsP at ih ⊢
   rw [List.flatMap_cons,countS_app,countS_app,ih];rfl
theorem count_slotsC (i : Int) : ∀ l : List Chunk,countS (slotsC l) i = sumF (cc i) l
 | []=>rfl
 | b :: r=>by
   have ih:=count_slotsC i r
   unfold slotsC at ih ⊢
   rw [List.flatMap_cons,countS_app,countS_app,count_boxes,ih];rfl
theorem count_slots (i : Int) (w : Wld) : countS (slotsW w) i = tw i w:=by
 unfold slotsW tw
 rw [countS_app,count_slotsP,count_slotsC]
theorem sum_insR (f : Box → Int) (x : Box) : ∀ l : List Box,sumF f (insR x l) = f x + sumF f l
 | []=>rfl
 | b :: r=>by
   have ih:=sum_insR f x r
   simp only [insR]
   split<;>simp only [sumF,ih]
   omega
theorem sum_delR (i : Int) {t : Int} : ∀ {l : List Box},rises l → sumF (bc i) (delR t l) = sumF (bc i) l - cO (fun s=>countS s i) (getB l t)
 | [],_=>rfl
 | b :: r,h=>by
   have ih:=sum_delR i (t:=t) h.2
   simp only [delR,getB]
   by_cases h1 : b.cell < t
   · rw [if_pos h1,if_neg (show ¬ b.cell = t by omega)]
     simp only [sumF,ih];omega
   · rw [if_neg h1]
     by_cases h2 : b.cell = t
     · rw [if_pos h2,if_pos h2];simp only [sumF,cO,bc];omega
     · rw [if_neg h2,if_neg h2,getB_none.2 fun x hx=>by have:=h.1 x hx;omega]
       simp only [cO];omega
theorem newBag_count (i : Int) : countS newBag i = 0:=by
 have : ∀ n : Nat,countS (List.replicate n ⟨0,0⟩) i = 0:=by
   intro n
   induction n with
   | zero=>rfl
   | succ n ih=>rw [List.replicate_succ];simp only [countS,ih,cnt];split<;>rfl
 exact this 6
theorem none_count {l : List Slot} (h : fullB l = false) (i : Int) : countS l i = 0:=by
 unfold fullB at h
 rw [List.any_eq_false] at h
 induction l with
 | nil=>rfl
 | cons s r ih =>
   have hs:=h s (by simp)
   simp only [posSlot,decide_eq_true_eq] at hs
   simp only [countS,cnt]
   rw [ih fun x hx=>h x (by simp [hx])]
   split<;>omega
theorem cc_put {c : Chunk} (h : rightB c = true) {t j : Int} (hf : fullAt c t = false) (i : Int) : cc i (putC c t j) = cc i c:=by
 have hr:=(right_fits h).up
 have h0 : cO (fun s=>countS s i) (getB c.boxes t) = 0:=by
   unfold fullAt at hf
   cases hg : getB c.boxes t with
   | none=>rfl
   | some s=>rw [hg] at hf;exact none_count hf i
 have hd:=sum_delR i (t:=t) hr
 show countS (c.heaps.map (·.slot)) i + sumF (bc i) (putB c.boxes t j) = _
 rw [putB_eq hr]
 unfold cc
 split
 · rw [sum_insR,show bc i ⟨t,newBag⟩ = countS newBag i from rfl,newBag_count];omega
 · omega
theorem cc_set {c : Chunk} (h : rightB c = true) {t j : Int} (ht : 0 ≤ t ∧ t < 64) (i : Int) : cc i (setC c t j).1 = cc i c:=by
 rw [setC_right h ht.1 ht.2]
 split
 · rfl
 · split
   · rfl
   · rename_i hf
     exact cc_put h (by simpa using hf) i
theorem cc_upd {c : Chunk} (h : rightB c = true) {t : Int} {l s : List Slot} (hg : getB c.boxes t = some s) (i : Int) : cc i (updC c t l) = cc i c + countS l i - countS s i:=by
 have hr:=(right_fits h).up
 have hth : thereB c.boxes t = true:=by rw [there_iff hr,hg];rfl
 have hd:=sum_delR i (t:=t) hr
 rw [hg] at hd
 show countS (c.heaps.map (·.slot)) i + sumF (bc i) (updB c.boxes t l) = _
 unfold updB
 rw [upd_eq ⟨t,l⟩ c.boxes hr hth,sum_insR]
 show _ + (countS l i + sumF (bc i) (delR t c.boxes)) = _
 unfold cc
 simp only [cO] at hd
 omega
theorem countS_one (s : Slot) (i : Int) : countS [s] i = cnt i s:=by simp [countS]
theorem cc_drop {c : Chunk} (t : Int) (s : Slot) (h : (dropC c t s).2 = 0) (i : Int) : cc i (dropC c t s).1 = cc i c + cnt i s:=by
 unfold dropC at h ⊢
 split at h
 · simp at h
 · rename_i h1
   split at h
   · simp at h
   · rename_i h2
     split at h
     · simp at h
     · rename_i h3
       split at h
       · simp at h
       · rename_i h4
         rw [if_neg h1,if_neg h2,if_neg h3,if_neg h4]
         unfold cc
         simp only [List.map_append,List.map_cons,List.map_nil,countS_app,countS_one]
         omega
theorem count_kept (t : Int) (i : Int) : ∀ l : List Heap,countS ((keptH t l).map (·.slot)) i + countS (hitsH t l) i = countS (l.map (·.slot)) i
 | []=>rfl
 | x :: r=>by
   have ih:=count_kept t i r
   unfold keptH hitsH at ih ⊢
   by_cases hx : x.cell = t
   · rw [List.filter_cons_of_neg (by simp [miss,hx]),List.filter_cons_of_pos (by simp [hit,hx])]
     simp only [List.map_cons,countS];omega
   · rw [List.filter_cons_of_pos (by simp [miss,hx]),List.filter_cons_of_neg (by simp [hit,hx])]
     simp only [List.map_cons,countS];omega
theorem cc_lift {c : Chunk} (h : rightB c = true) (t : Int) (i : Int) : cc i (liftC c t).1 + countS (liftC c t).2 i = cc i c:=by
 unfold liftC
 rw [if_pos h]
 have:=count_kept t i c.heaps
 unfold cc
 dsimp only
 omega
theorem plain_eq {seed : Int} {k : Chunk} (hk : rightB k = true) (h : plainW seed k = true) : k = genC seed k.x k.y:=by
 unfold plainW eqI at h
 rw [Bool.and_eq_true,decide_eq_true_eq,decide_eq_true_eq] at h
 have hh : k.heaps = []:=List.length_eq_zero_iff.1 (by omega)
 have hb : k.boxes = []:=by
   refine List.eq_nil_iff_forall_not_mem.2 fun b hb=>?_
   have hf:=right_fits hk
   have h1:=hf.bags b hb
   have hl:=right_len hk
   have h2:=(hf.chest b.cell.toNat (by omega)).2 (by
     rw [show ((0 : Nat) : Int) + (b.cell.toNat : Nat) = b.cell by omega,getB_of_mem hf.up hb];rfl)
   rw [h.2,List.getD_eq_getElem?_getD] at h2
   have hlt : b.cell.toNat < (gl seed k.x k.y 64).length:=by rw [gl_len];omega
   rw [List.getElem?_eq_getElem hlt] at h2
   have hm : (gl seed k.x k.y 64)[b.cell.toNat] ∈ gl seed k.x k.y 64:=List.getElem_mem hlt
   unfold gl at hm
   rw [List.mem_map] at hm
   obtain ⟨j,_,hj⟩:=hm
   have h3:=(cellI_ok seed (k.x * 8 + (j % 8 : Nat)) (k.y * 8 + (j / 8 : Nat))).2
   rw [hj] at h3
   exact h3 h2
 obtain ⟨x,y,cs,hs,bs⟩:=k
 dsimp only at hh hb h
 rw [hh,hb,h.2]
 rfl
theorem chunk_get {w : Wld} {k : Chunk} (hR : RW w) (hk : rightB k = true) (hm : max k.x k.y < w.size) : (chunkW w k.x k.y).1 = match getK keyC w.chunks (keyC k) with|some c=>c|none=>genC w.seed k.x k.y:=by
 have h:=rightB_pos hk
 rw [(chunkW_in hR (x:=k.x) (y:=k.y) (by omega) (by omega)).1]
 rfl
theorem tw_put {w : Wld} {k : Chunk} (hR : RW w) (hk : rightB k = true) (hm : max k.x k.y < w.size) (i : Int) :
   tw i (withCs w (putL w.seed w.chunks k)) = tw i w + cc i k - cc i (chunkW w k.x k.y).1:=by
 have hc:=chunk_get hR hk hm
 have hd:=sumF_del (cc i) (t:=keyC k) hR.rc
 have h1 : cO (cc i) (getK keyC w.chunks (keyC k)) = cc i (chunkW w k.x k.y).1:=by
   rw [hc]
   cases getK keyC w.chunks (keyC k)<;>rfl
 show sumF (pc i) w.players + sumF (cc i) (putL w.seed w.chunks k) = _
 unfold putL tw
 by_cases hp : plainW w.seed k = true
 · rw [if_pos hp]
   have h2 : cc i k = 0:=by rw [plain_eq hk hp];rfl
   omega
 · rw [if_neg hp,sumF_ins]
   omega
theorem tw_set {w : Wld} {p : Player} (hR : RW w) (i : Int) : tw i (withP w (setL w.players p)) = tw i w + pc i p - cO (pc i) (getK pid w.players p.id):=by
 have hd:=sumF_del (pc i) (t:=p.id) hR.rp
 show sumF (pc i) (setL w.players p) + sumF (cc i) w.chunks = _
 unfold setL tw
 rw [sumF_ins]
 omega
theorem tw_setW {w : Wld} {p : Player} (h : (setW w p).2 = 0) (i : Int) : tw i (setW w p).1 = tw i w + pc i p - cO (pc i) (getK pid w.players p.id):=by
 obtain ⟨h1,h2⟩:=set_good h
 rw [h2]
 exact tw_set h1.1 i
theorem tw_keep {w : Wld} {k : Chunk} {p : Player} (h : (keepA w k p).2 = 0) (i : Int) :
   tw i (keepA w k p).1 = tw i w + cc i k - cc i (chunkW w k.x k.y).1 + pc i p - cO (pc i) (getK pid w.players p.id):=by
 obtain ⟨h1,h2,h3,h4,h5⟩:=keep_good h
 rw [h5]
 refine (tw_set (w:=withCs w (putL w.seed w.chunks k)) (p:=p) h4.1 i).trans ?_
 rw [tw_put h1 h2 h3]
 rfl
open Go Go.RowKit Eng
theorem countS_rev (i : Int) : ∀ l : List Slot,countS l.reverse i = countS l i
 | []=>rfl
 | s :: r=>by rw [List.reverse_cons,countS_app,countS_rev i r,countS_one];simp only [countS];omega
theorem spendR_len (i : Int) : ∀ (l : List Slot) (n : Int),(spendR i l n).length = l.length
 | [],_=>rfl
 | s :: r,n=>by
   simp only [spendR]
   split
   · rfl
   · split<;>simp only [List.length_cons,spendR_len i r]
theorem less_bad {s : Slot} {m : Int} (h : badSlot s = false) (h0 : 0 ≤ m) (h1 : m ≤ s.n) : badSlot (lessS s m) = false:=by
 have hs:=badSlot_false.1 h
 unfold lessS
 split
 · exact badSlot_false.2 (.inl ⟨rfl,rfl⟩)
 · refine badSlot_false.2 ?_
   rcases hs with hs|hs
   · dsimp only;omega
   · right;dsimp only;omega
theorem spendR_bad (i : Int) : ∀ (l : List Slot) (n : Int),(∀ s ∈ l,badSlot s = false) → ∀ s ∈ spendR i l n,badSlot s = false
 | [],_,_=>by simp [spendR]
 | a :: r,n,h=>by
   simp only [spendR]
   split
   · exact h
   · rename_i hn
     have ha:=h a (by simp)
     have ha2:=badSlot_false.1 ha
     have hst:=(stackN_bd a.item).1
     have ih:=fun m=>spendR_bad i r m fun s hs=>h s (by simp [hs])
     split
     · intro s hs
       rcases List.mem_cons.1 hs with rfl|hs
       · exact less_bad ha (by omega) (by omega)
       · exact ih _ s hs
     · intro s hs
       rcases List.mem_cons.1 hs with rfl|hs
       · exact ha
       · exact ih _ s hs
theorem cnt_less {s : Slot} {m : Int} (h0 : 0 ≤ m) (h1 : m ≤ s.n) (k : Int) : cnt k (lessS s m) + sel k s.item m = cnt k s:=by
 unfold lessS cnt sel
 by_cases hk : ¬ k = 0 ∧ s.item = k
 · rw [if_pos hk,if_pos hk]
   by_cases hm : s.n - m = 0
   · rw [if_pos hm]
     rw [if_neg (fun h=>h.1 h.2.symm)]
     omega
   · rw [if_neg hm,if_pos (by dsimp only;exact hk)]
     dsimp only;omega
 · rw [if_neg hk,if_neg hk]
   by_cases hm : s.n - m = 0
   · rw [if_pos hm,if_neg (fun h=>h.1 h.2.symm)];omega
   · rw [if_neg hm,if_neg (by dsimp only;exact hk)];omega
theorem countS_nn (i : Int) : ∀ l : List Slot,0 ≤ countS l i
 | []=>Int.le_refl _
 | s :: r=>by
   have ih:=countS_nn i r
   have : 0 ≤ cnt i s:=by unfold cnt;split<;>omega
   simp only [countS];omega
theorem spendR_count {i : Int} (hi : ¬ i = 0) : ∀ (l : List Slot) (n : Int),(∀ s ∈ l,0 ≤ s.n) → 0 ≤ n → n ≤ countS l i → ∀ k,countS (spendR i l n) k + sel k i n = countS l k
 | [],n,_,h0,h1,k=>by
   have : n = 0:=by simp only [countS] at h1;omega
   subst this
   simp [spendR,countS,sel_zero]
 | a :: r,n,h,h0,h1,k=>by
   simp only [spendR]
   by_cases hn : n ≤ 0
   · rw [if_pos hn,show n = 0 by omega,sel_zero];omega
   · rw [if_neg hn]
     have ha:=h a (by simp)
     simp only [countS] at h1
     by_cases hai : a.item = i
     · rw [if_pos hai]
       have hc : cnt i a = a.n:=by unfold cnt;rw [if_pos ⟨hi,hai⟩];omega
       rw [hc] at h1
       have hnn:=countS_nn i r
       have ih:=spendR_count hi r (n - min a.n n) (fun s hs=>h s (by simp [hs])) (by omega) (by omega) k
       have hl:=cnt_less (s:=a) (m:=min a.n n) (by omega) (by omega) k
       rw [hai] at hl
       simp only [countS]
       have hs : sel k i n = sel k i (min a.n n) + sel k i (n - min a.n n):=by unfold sel;split<;>omega
       omega
     · rw [if_neg hai]
       have hc : cnt i a = 0:=by unfold cnt;rw [if_neg (fun h=>hai h.2)]
       rw [hc] at h1
       have ih:=spendR_count hi r n (fun s hs=>h s (by simp [hs])) h0 (by omega) k
       simp only [countS]
       omega
theorem spendS_good {l : List Slot} {i n : Int} (hi : ¬ i = 0) (h : (spendS l i n).2 = 0) : bagOk l = true ∧ 1 ≤ n ∧ n ≤ countS l i ∧ (spendS l i n).1 = spendL l i n:=by
 unfold spendS at h ⊢
 split at h
 · simp at h
 · rename_i h1
   split at h
   · simp at h
   · rename_i h2
     split at h
     · simp at h
     · rename_i h3
       exact ⟨by simpa using h1,by omega,Int.not_lt.1 h3,by rw [if_neg h1,if_neg h2,if_neg h3]⟩
theorem spendL_props {l : List Slot} {i n : Int} (hi : ¬ i = 0) (hb : bagOk l = true) (hn : 0 ≤ n) (hc : n ≤ countS l i) :
   bagOk (spendL l i n) = true ∧ (spendL l i n).length = l.length ∧ ∀ k,countS (spendL l i n) k + sel k i n = countS l k:=by
 have hb2:=bagOk_iff.1 hb
 have hsm:=bagOk_small hb
 unfold spendL
 refine ⟨bagOk_iff.2 fun s hs=>?_,by rw [List.length_reverse,spendR_len,List.length_reverse],fun k=>?_⟩
 · rw [List.mem_reverse] at hs
   exact spendR_bad i _ n (fun x hx=>hb2 x (List.mem_reverse.1 hx)) s hs
 · rw [countS_rev,← countS_rev k l]
   exact spendR_count hi _ n (fun s hs=>(hsm s (List.mem_reverse.1 hs)).1) hn (by rw [countS_rev];exact hc) k
theorem spendS_any (l : List Slot) (i n : Int) : (spendS l i n).1.length = l.length ∧ (bagOk l = true → bagOk (spendS l i n).1 = true):=by
 unfold spendS
 split
 · exact ⟨rfl,id⟩
 · rename_i h1
   split
   · exact ⟨rfl,id⟩
   · split
     · exact ⟨rfl,id⟩
     · have hb : bagOk l = true:=by simpa using h1
       refine ⟨by unfold spendL;rw [List.length_reverse,spendR_len,List.length_reverse],fun _=>bagOk_iff.2 fun s hs=>?_⟩
       unfold spendL at hs
       rw [List.mem_reverse] at hs
       exact spendR_bad i _ n (fun x hx=>bagOk_iff.1 hb x (List.mem_reverse.1 hx)) s hs
def takesR (wants : List Slot) (k : Int) : Int:=sumF (fun s : Slot=>sel k s.item s.n) wants
theorem recipe_mem {n : Int} {r : List Slot × Slot} (h : recipeN n = some r) : r ∈ recipesL:=by
 unfold recipeN at h
 split at h
 · cases h
 · exact List.mem_of_getElem? h
theorem recipe_ok {n : Int} {wants : List Slot} {makes : Slot} (h : recipeN n = some (wants,makes)) :
   (∀ s ∈ wants,1 ≤ s.item ∧ s.item ≤ 12 ∧ 1 ≤ s.n ∧ s.n ≤ 16) ∧ 1 ≤ makes.item ∧ makes.item ≤ 12 ∧ 1 ≤ makes.n ∧ makes.n ≤ 16 ∧ wants.length ≤ 2 ∧ ∀ a b,wants = [a,b] → ¬ a.item = b.item:=by
 have hm:=recipe_mem h
 simp only [recipesL,List.mem_cons,List.not_mem_nil,or_false,Prod.mk.injEq] at hm
 rcases hm with ⟨rfl,rfl⟩|⟨rfl,rfl⟩|⟨rfl,rfl⟩|⟨rfl,rfl⟩|⟨rfl,rfl⟩|⟨rfl,rfl⟩|⟨rfl,rfl⟩
 all_goals
   refine ⟨by decide,by decide,by decide,by decide,by decide,by decide,fun a b hab=>?_⟩
   first
     | (simp at hab;done)
     | (simp only [List.cons.injEq,and_true] at hab;obtain ⟨rfl,rfl⟩:=hab;decide)
theorem sel_diff {k i n : Int} (h : ¬ i = k) : sel k i n = 0:=by unfold sel;rw [if_neg (fun x=>h x.2)]
theorem spends_two {l wants : List Slot} (hb : bagOk l = true) (hw : ∀ s ∈ wants,1 ≤ s.item ∧ s.item ≤ 12 ∧ 1 ≤ s.n ∧ s.n ≤ 16) (h2 : wants.length ≤ 2) (hne : ∀ a b,wants = [a,b] → ¬ a.item = b.item)
   (hc : wants.any (fun s=>decide (countS l s.item < s.n)) = false) :
   bagOk (wants.foldl (fun b s=>(spendS b s.item s.n).1) l) = true ∧ (wants.foldl (fun b s=>(spendS b s.item s.n).1) l).length = l.length ∧
     ∀ k,countS (wants.foldl (fun b s=>(spendS b s.item s.n).1) l) k + takesR wants k = countS l k:=by
 rw [List.any_eq_false] at hc
 have hgo : ∀ (b : List Slot) (s : Slot),bagOk b = true → 1 ≤ s.n → s.n ≤ countS b s.item → (spendS b s.item s.n).1 = spendL b s.item s.n:=by
   intro b s h1 h2 h3
   unfold spendS
   rw [if_neg (by rw [h1];simp),if_neg (by omega),if_neg (by omega)]
 match wants,h2 with
 | [],_=>exact ⟨hb,rfl,fun k=>by simp [takesR,sumF]⟩
 | [a],_ =>
   have ha:=hw a (by simp)
   have hca:=hc a (by simp)
   simp only [decide_eq_true_eq] at hca
   obtain ⟨p1,p2,p3⟩:=spendL_props (i:=a.item) (n:=a.n) (by omega) hb (by omega) (by omega)
   simp only [List.foldl_cons,List.foldl_nil]
   rw [hgo l a hb (by omega) (by omega)]
   refine ⟨p1,p2,fun k=>?_⟩
   have:=p3 k
   simp only [takesR,sumF];omega
 | [a,b],_ =>
   have ha:=hw a (by simp)
   have hb':=hw b (by simp)
   have hca:=hc a (by simp)
   have hcb:=hc b (by simp)
   simp only [decide_eq_true_eq] at hca hcb
   have hab:=hne a b rfl
   obtain ⟨p1,p2,p3⟩:=spendL_props (i:=a.item) (n:=a.n) (by omega) hb (by omega) (by omega)
   simp only [List.foldl_cons,List.foldl_nil]
   rw [hgo l a hb (by omega) (by omega)]
   have e:=p3 b.item
   rw [sel_diff hab] at e
   obtain ⟨q1,q2,q3⟩:=spendL_props (i:=b.item) (n:=b.n) (by omega) p1 (by omega) (by omega)
   rw [hgo _ b p1 (by omega) (by omega)]
   refine ⟨q1,by omega,fun k=>?_⟩
   have:=p3 k
   have:=q3 k
   simp only [takesR,sumF];omega
theorem makeS_good {l : List Slot} {n : Int} (h : (makeS l n).2 = 0) : ∃ wants makes,recipeN n = some (wants,makes) ∧ bagOk l = true ∧ bagOk (makeS l n).1 = true ∧ (makeS l n).1.length = l.length ∧
   ∀ k,countS (makeS l n).1 k + takesR wants k = countS l k + sel k makes.item makes.n:=by
 unfold makeS at h ⊢
 split at h
 · simp at h
 · rename_i h1
   have hb : bagOk l = true:=by simpa using h1
   rw [if_neg h1]
   cases hr : recipeN n with
   | none=>rw [hr] at h;simp at h
   | some r =>
     obtain ⟨wants,makes⟩:=r
     rw [hr] at h
     dsimp only at h ⊢
     obtain ⟨r1,r2,r3,r4,r5,r6,r7⟩:=recipe_ok hr
     split at h
     · simp at h
     · rename_i h2
       rw [if_neg h2]
       split at h
       · simp at h
       · rename_i h3
         rw [if_neg h3]
         obtain ⟨p1,p2,p3⟩:=spends_two hb r1 r6 r7 (by simpa using h2)
         refine ⟨wants,makes,rfl,hb,putS_bagOk p1,by rw [putS_length];exact p2,fun k=>?_⟩
         have hl:=putS_left (l:=wants.foldl (fun b s=>(spendS b s.item s.n).1) l) (i:=makes.item) (n:=makes.n) (by omega)
         have hpc:=putS_count (l:=wants.foldl (fun b s=>(spendS b s.item s.n).1) l) (i:=makes.item) (n:=makes.n) (by omega) k
         rw [show (putS (wants.foldl (fun b s=>(spendS b s.item s.n).1) l) makes.item makes.n).2 = 0 by omega,sel_zero] at hpc
         have:=p3 k
         dsimp only
         omega
theorem makeS_any (l : List Slot) (n : Int) (hb : bagOk l = true) : (makeS l n).1.length = l.length ∧ bagOk (makeS l n).1 = true:=by
 by_cases h : (makeS l n).2 = 0
 · obtain ⟨_,_,_,_,h1,h2,_⟩:=makeS_good h
   exact ⟨h2,h1⟩
 · have e : (makeS l n).1 = l:=by
     unfold makeS at h ⊢
     split
     · rfl
     · rename_i h1
       rw [if_neg h1] at h
       cases hr : recipeN n with
       | none=>rfl
       | some r =>
         obtain ⟨wants,makes⟩:=r
         rw [hr] at h
         dsimp only at h ⊢
         split
         · rfl
         · rename_i h2
           rw [if_neg h2] at h
           split
           · rfl
           · rename_i h3
             rw [if_neg h3] at h
             exact absurd rfl h
   rw [e];exact ⟨rfl,hb⟩
open Go Go.RowKit Eng
theorem setC_xy (c : Chunk) (t i : Int) : (setC c t i).1.x = c.x ∧ (setC c t i).1.y = c.y:=by unfold setC;(repeat' split)<;>exact ⟨rfl,rfl⟩
theorem dropC_xy (c : Chunk) (t : Int) (s : Slot) : (dropC c t s).1.x = c.x ∧ (dropC c t s).1.y = c.y:=by unfold dropC;(repeat' split)<;>exact ⟨rfl,rfl⟩
theorem fillC_xy (c : Chunk) (t : Int) (l : List Slot) : (fillC c t l).1.x = c.x ∧ (fillC c t l).1.y = c.y:=by unfold fillC;(repeat' split)<;>exact ⟨rfl,rfl⟩
theorem liftC_xy (c : Chunk) (t : Int) : (liftC c t).1.x = c.x ∧ (liftC c t).1.y = c.y:=by unfold liftC;split<;>exact ⟨rfl,rfl⟩
theorem cnt_sel {k i n : Int} (h : 0 ≤ n) : cnt k ⟨i,n⟩ = sel k i n:=by unfold cnt sel;split<;>first|rfl|(dsimp only;omega)
theorem tw_set_p {w : Wld} {p' p : Player} (h : (setW w p').2 = 0) (hg : getK pid w.players p'.id = some p) (k : Int) : tw k (setW w p').1 = tw k w + pc k p' - pc k p:=by
 rw [tw_setW h,hg];rfl
theorem tw_keep_p {w : Wld} {K K0 : Chunk} {p' p : Player} (h : (keepA w K p').2 = 0) (hg : getK pid w.players p'.id = some p) (hc : (chunkW w K.x K.y).1 = K0) (k : Int) :
   tw k (keepA w K p').1 = tw k w + cc k K - cc k K0 + pc k p' - pc k p:=by
 rw [tw_keep h,hg,hc];rfl
structure Here (w : Wld) (p : Player) : Prop where
 rw : RW w
 get : getK pid w.players p.id = some p
theorem Here.sound {w : Wld} {p : Player} (h : Here w p) : soundB p = true ∧ withinW w.size p.x p.y = true:=h.rw.players p (getK_mem h.get).1
theorem Here.bag {w : Wld} {p : Player} (h : Here w p) : p.bag.length = 8 ∧ bagOk p.bag = true:=by
 obtain ⟨_,_,h3,h4,_⟩:=sound_parts h.sound.1
 exact ⟨by omega,h4⟩
theorem here_of {w : Wld} (hR : RW w) {id : Int} (h : (playerW w id).2 = true) : Here w (playerW w id).1 ∧ (playerW w id).1.id = id:=by
 have hr:=rightW_iff.2 hR
 have e : playerW w id = match getK pid w.players id with|some p=>(p,true)|none=>(zeroP,false):=by
   unfold playerW;rw [if_neg (by rw [hr];simp)];rfl
 cases hg : getK pid w.players id with
 | none=>rw [hg] at e;rw [e] at h;simp at h
 | some p =>
   rw [hg] at e
   rw [e]
   have hm:=getK_mem hg
   have hid : p.id = id:=hm.2
   exact ⟨⟨hR,by rw [hid];exact hg⟩,hid⟩
theorem place_at {w : Wld} {x y : Int} (hR : RW w) (h : withinW w.size x y = true) {K : Chunk} (h1 : K.x = (placeC w x y).x) (h2 : K.y = (placeC w x y).y) : (chunkW w K.x K.y).1 = placeC w x y:=by
 obtain ⟨_,h3,h4⟩:=place_right hR h
 rw [h1,h2,h3,h4];rfl
theorem at_place {w : Wld} {x y : Int} (hR : RW w) (h : withinW w.size x y = true) : atW w x y = (cellA (placeC w x y) (placeI x y),true):=atW_in hR ((within_iff hR).1 h)
theorem move_count {w : Wld} {p : Player} {c : Cmd} (hp : Here w p) (h : (moveA w p c).2 = 0) (k : Int) : tw k (moveA w p c).1 = tw k w:=by
 unfold moveA at h ⊢
 split at h
 · simp at h
 · rename_i h1
   split at h
   · simp at h
   · rename_i h2
     rw [if_neg h1,if_neg h2,tw_set_p h hp.get]
     show tw k w + pc k p - pc k p = _
     omega
theorem break_count {w : Wld} {p : Player} {c : Cmd} (hp : Here w p) (h : (breakA w p c).2 = 0) (k : Int) : tw k (breakA w p c).1 = tw k w + sel k (givesI (atW w c.a c.b).1) 1:=by
 unfold breakA at h ⊢
 split at h
 · rename_i h1;exact absurd h h1
 · rename_i h1
   have hin:=(aim_in (Decidable.not_not.1 h1)).1
   have hK:=(place_right hp.rw hin).1
   have hI:=placeI_bd c.a c.b
   rw [if_neg h1]
   split at h
   · simp at h
   · rename_i h2
     rw [if_neg h2]
     split at h
     · rename_i h3;exact absurd h h3
     · rename_i h3
       rw [if_neg h3]
       split at h
       · simp at h
       · rename_i h4
         rw [if_neg h4]
         have hxy:=setC_xy (placeC w c.a c.b) (placeI c.a c.b) 0
         have hl:=putS_left (l:=p.bag) (i:=givesI (cellA (placeC w c.a c.b) (placeI c.a c.b))) (n:=1) (by omega)
         have hpc:=putS_count (l:=p.bag) (i:=givesI (cellA (placeC w c.a c.b) (placeI c.a c.b))) (n:=1) (by omega) k
         rw [tw_keep_p h hp.get (place_at hp.rw hin hxy.1 hxy.2),cc_set hK hI,at_place hp.rw hin]
         rw [show (putS p.bag (givesI (cellA (placeC w c.a c.b) (placeI c.a c.b))) 1).2 = 0 by omega,sel_zero] at hpc
         unfold pc
         dsimp only
         omega
theorem place_count {w : Wld} {p : Player} {c : Cmd} (hp : Here w p) (h : (placeA w p c).2 = 0) (k : Int) : tw k (placeA w p c).1 = tw k w - sel k (elt .slot p.bag c.c.toNat).item 1:=by
 unfold placeA at h ⊢
 split at h
 · rename_i h1;exact absurd h h1
 · rename_i h1
   have hin:=(aim_in (Decidable.not_not.1 h1)).1
   have hK:=(place_right hp.rw hin).1
   have hI:=placeI_bd c.a c.b
   rw [if_neg h1]
   split at h
   · rename_i h2;exact absurd h h2
   · rename_i h2
     obtain ⟨n1,n2,n3,n4,n5,n6,n7,n8⟩:=takeS_n (Decidable.not_not.1 h2)
     rw [if_neg h2]
     split at h
     · simp at h
     · rename_i h3
       rw [if_neg h3]
       split at h
       · simp at h
       · rename_i h4
         rw [if_neg h4]
         split at h
         · rename_i h5;exact absurd h h5
         · rename_i h5
           rw [if_neg h5]
           have hxy:=setC_xy (placeC w c.a c.b) (placeI c.a c.b) (takeS p.bag c.c 1).2.1.item
           rw [tw_keep_p h hp.get (place_at hp.rw hin hxy.1 hxy.2),cc_set hK hI,n8]
           have hc1:=take_count n4 (a:=c.c.toNat) (by omega) n2 n7 k
           unfold pc
           dsimp only
           omega
theorem drop_count {w : Wld} {p : Player} {c : Cmd} (hp : Here w p) (h : (dropA w p c).2 = 0) (k : Int) : tw k (dropA w p c).1 = tw k w:=by
 have hin:=hp.sound.2
 unfold dropA at h ⊢
 split at h
 · rename_i h1;exact absurd h h1
 · rename_i h1
   obtain ⟨n1,n2,n3,n4,n5,n6,n7,n8⟩:=takeS_n (Decidable.not_not.1 h1)
   rw [if_neg h1]
   split at h
   · rename_i h2;exact absurd h h2
   · rename_i h2
     rw [if_neg h2]
     have hxy:=dropC_xy (placeC w p.x p.y) (placeI p.x p.y) (takeS p.bag c.c c.n).2.1
     rw [tw_keep_p h hp.get (place_at hp.rw hin hxy.1 hxy.2),cc_drop _ _ (Decidable.not_not.1 h2),n8]
     have hc1:=take_count n4 (a:=c.c.toNat) (by omega) n2 n7 k
     rw [cnt_sel (by omega)]
     unfold pc
     dsimp only
     omega
theorem pick_law (cell : Int) (hc : 0 ≤ cell ∧ cell < 64) : ∀ (l : List Slot) (K : Chunk) (b : List Slot) (z : Bool),rightB K = true → bagOk b = true → (∀ s ∈ l,someB s = true) → K.heaps.length + l.length ≤ 32 →
   rightB (pickA cell l (K,b,z)).1 = true ∧ bagOk (pickA cell l (K,b,z)).2.1 = true ∧ (pickA cell l (K,b,z)).2.1.length = b.length ∧ (pickA cell l (K,b,z)).1.x = K.x ∧ (pickA cell l (K,b,z)).1.y = K.y ∧
   ∀ k,cc k (pickA cell l (K,b,z)).1 + countS (pickA cell l (K,b,z)).2.1 k = cc k K + countS b k + countS l k
 | [],K,b,z,hK,hb,_,_=>⟨hK,hb,rfl,rfl,rfl,fun k=>by simp [pickA,countS]⟩
 | s :: r,K,b,z,hK,hb,hl,h32=>by
   have hs:=someB_ok (hl s (by simp))
   have hsb:=hl s (by simp)
   simp only [someB,Bool.and_eq_true,decide_eq_true_eq] at hsb
   have hleft:=putS_left (l:=b) (i:=s.item) (n:=s.n) (by omega)
   have hpc:=putS_count (l:=b) (i:=s.item) (n:=s.n) (by omega)
   have hb2:=putS_bagOk (i:=s.item) (n:=s.n) hb
   have hbl:=putS_length b s.item s.n
   simp only [List.length_cons] at h32
   simp only [pickA]
   generalize putS b s.item s.n = P at *
   obtain ⟨P1,P2⟩:=P
   dsimp only at *
   have hsel : ∀ k,cnt k s = sel k s.item s.n:=fun k=>cnt_sel (i:=s.item) (by omega)
   by_cases h0 : 0 < P2
   · rw [if_pos h0]
     have hxy:=dropC_xy K cell ⟨s.item,P2⟩
     have hd:=drop_right hK (t:=cell) (s:=⟨s.item,P2⟩) hc
     have hok : (dropC K cell ⟨s.item,P2⟩) = ({ K with heaps:=K.heaps ++ [⟨cell,⟨s.item,P2⟩⟩] },0):=by
       unfold dropC
       rw [if_neg (by rw [hK];simp),if_neg (by omega),if_neg (by unfold someB;rw [Bool.and_eq_false_iff,decide_eq_false_iff_not,decide_eq_false_iff_not];dsimp only;omega),if_neg (by omega)]
     have hcc:=cc_drop (c:=K) cell ⟨s.item,P2⟩ (by rw [hok])
     obtain ⟨i1,i2,i3,i4,i5,i6⟩:=pick_law cell hc r (dropC K cell ⟨s.item,P2⟩).1 P1 (z || decide (P2 < s.n)) hd hb2 (fun x hx=>hl x (by simp [hx])) (by rw [hok];simp;omega)
     refine ⟨i1,i2,by omega,by rw [i4,hxy.1],by rw [i5,hxy.2],fun k=>?_⟩
     rw [i6 k,hcc k,cnt_sel (by omega)]
     have:=hpc k
     simp only [countS,hsel]
     omega
   · rw [if_neg h0]
     obtain ⟨i1,i2,i3,i4,i5,i6⟩:=pick_law cell hc r K P1 (z || decide (P2 < s.n)) hK hb2 (fun x hx=>hl x (by simp [hx])) (by omega)
     refine ⟨i1,i2,by omega,i4,i5,fun k=>?_⟩
     rw [i6 k]
     have:=hpc k
     rw [show P2 = 0 by omega,sel_zero] at this
     simp only [countS,hsel]
     omega
theorem kept_hits (t : Int) : ∀ l : List Heap,(keptH t l).length + (hitsH t l).length = l.length
 | []=>rfl
 | x :: r=>by
   have ih:=kept_hits t r
   unfold keptH hitsH at ih ⊢
   by_cases hx : x.cell = t
   · rw [List.filter_cons_of_neg (by simp [miss,hx]),List.filter_cons_of_pos (by simp [hit,hx])]
     simp only [List.map_cons,List.length_cons];omega
   · rw [List.filter_cons_of_pos (by simp [miss,hx]),List.filter_cons_of_neg (by simp [hit,hx])]
     simp only [List.length_cons];omega
theorem lift_heaps {c : Chunk} (h : rightB c = true) (t : Int) : (liftC c t).1.heaps.length + (liftC c t).2.length ≤ 32:=by
 have h1:=kept_hits t c.heaps
 have h2:=right_heaps h
 unfold liftC
 rw [if_pos h]
 dsimp only
 omega
theorem take_count2 {w : Wld} {p : Player} (hp : Here w p) (h : (takeA w p).2 = 0) (k : Int) : tw k (takeA w p).1 = tw k w:=by
 have hin:=hp.sound.2
 have hK:=(place_right hp.rw hin).1
 have hI:=placeI_bd p.x p.y
 have hL:=lift_right hK (placeI p.x p.y)
 have hh:=lift_heaps hK (placeI p.x p.y)
 have hcl:=cc_lift hK (placeI p.x p.y) k
 have hxy:=liftC_xy (placeC w p.x p.y) (placeI p.x p.y)
 unfold takeA at h ⊢
 dsimp only at h ⊢
 obtain ⟨i1,i2,i3,i4,i5,i6⟩:=pick_law (placeI p.x p.y) hI (liftC (placeC w p.x p.y) (placeI p.x p.y)).2 (liftC (placeC w p.x p.y) (placeI p.x p.y)).1 p.bag false hL.1 hp.bag.2 hL.2 hh
 generalize pickA (placeI p.x p.y) (liftC (placeC w p.x p.y) (placeI p.x p.y)).2 ((liftC (placeC w p.x p.y) (placeI p.x p.y)).1,p.bag,false) = R at *
 split at h
 · simp at h
 · rename_i h1
   rw [if_neg h1]
   split at h
   · simp at h
   · rename_i h2
     rw [if_neg h2,tw_keep_p h hp.get (place_at hp.rw hin (by rw [i4,hxy.1]) (by rw [i5,hxy.2]))]
     have:=i6 k
     unfold pc
     dsimp only
     omega
theorem movedA_count {l m : List Slot} {a n : Int} (h : (movedA l m a n).2.2 = 0) (hm : bagOk m = true) : (movedA l m a n).1.length = l.length ∧ (movedA l m a n).2.1.length = m.length ∧ bagOk (movedA l m a n).1 = true ∧ bagOk (movedA l m a n).2.1 = true ∧
   ∀ k,countS (movedA l m a n).1 k + countS (movedA l m a n).2.1 k = countS l k + countS m k:=by
 unfold movedA at h ⊢
 split at h
 · rename_i h1;exact absurd h h1
 · rename_i h1
   obtain ⟨n1,n2,n3,n4,n5,n6,n7,n8⟩:=takeS_n (Decidable.not_not.1 h1)
   rw [if_neg h1]
   split at h
   · simp at h
   · rename_i h2
     rw [if_neg h2]
     rw [n8] at h2 ⊢
     dsimp only at h2 ⊢
     have hl:=putS_left (l:=m) (i:=(elt .slot l a.toNat).item) (n:=n) (by omega)
     refine ⟨List.length_set ..,putS_length _ _ _,take_bagOk n4 (by omega) n2 n7,putS_bagOk hm,fun k=>?_⟩
     have hc1:=take_count n4 (a:=a.toNat) (by omega) n2 n7 k
     have hpc:=putS_count (l:=m) (i:=(elt .slot l a.toNat).item) (n:=n) (by omega) k
     rw [show (putS m (elt .slot l a.toNat).item n).2 = 0 by omega,sel_zero] at hpc
     omega
theorem fill_good {c : Chunk} (h : rightB c = true) {t : Int} {l : List Slot} (hf : (fillC c t l).2 = 0) : (fillC c t l).1 = updC c t l:=by
 rw [fillC_right h] at hf ⊢
 split at hf
 · simp at hf
 · rename_i h1
   rw [if_neg h1]
   split at hf
   · simp at hf
   · rename_i h2
     rw [if_neg h2]
theorem store_count {w : Wld} {p : Player} {c : Cmd} (hp : Here w p) (h : (storeA w p c).2 = 0) (k : Int) : tw k (storeA w p c).1 = tw k w:=by
 unfold storeA at h ⊢
 split at h
 · rename_i h1;exact absurd h h1
 · rename_i h1
   have hin:=(aim_in (Decidable.not_not.1 h1)).1
   have hK:=(place_right hp.rw hin).1
   have hI:=placeI_bd c.a c.b
   rw [if_neg h1]
   split at h
   · simp at h
   · rename_i h2
     have hB : (boxC (placeC w c.a c.b) (placeI c.a c.b)).2 = true:=by simpa using h2
     have hbx:=box_right hK hB
     have hg : getB (placeC w c.a c.b).boxes (placeI c.a c.b) = some (boxC (placeC w c.a c.b) (placeI c.a c.b)).1:=by
       rw [boxC_get hK] at hB ⊢
       dsimp only at hB ⊢
       obtain ⟨s,hs⟩:=Option.isSome_iff_exists.1 hB
       rw [hs];rfl
     rw [if_neg h2]
     generalize (boxC (placeC w c.a c.b) (placeI c.a c.b)).1 = X at *
     by_cases hd : c.dol = 7
     · simp only [if_pos hd] at h ⊢
       split at h
       · rename_i h3;exact absurd h h3
       · rename_i h3
         obtain ⟨_,_,_,m4,m5⟩:=movedA_count (Decidable.not_not.1 h3) hbx.2
         rw [if_neg h3]
         split at h
         · rename_i h4;exact absurd h h4
         · rename_i h4
           have hxy:=fillC_xy (placeC w c.a c.b) (placeI c.a c.b) (movedA p.bag X c.c c.n).2.1
           rw [if_neg h4,tw_keep_p h hp.get (place_at hp.rw hin hxy.1 hxy.2),fill_good hK (Decidable.not_not.1 h4),cc_upd hK hg]
           have:=m5 k
           unfold pc
           dsimp only
           omega
     · simp only [if_neg hd] at h ⊢
       split at h
       · rename_i h3;exact absurd h h3
       · rename_i h3
         obtain ⟨_,_,m3,_,m5⟩:=movedA_count (Decidable.not_not.1 h3) hp.bag.2
         rw [if_neg h3]
         split at h
         · rename_i h4;exact absurd h h4
         · rename_i h4
           have hxy:=fillC_xy (placeC w c.a c.b) (placeI c.a c.b) (movedA X p.bag c.c c.n).1
           rw [if_neg h4,tw_keep_p h hp.get (place_at hp.rw hin hxy.1 hxy.2),fill_good hK (Decidable.not_not.1 h4),cc_upd hK hg]
           have:=m5 k
           unfold pc
           dsimp only
           omega
theorem craft_count {w : Wld} {p : Player} {c : Cmd} (hp : Here w p) (h : (craftA w p c).2 = 0) (k : Int) :
   tw k (craftA w p c).1 = tw k w + (match recipeN c.c with|some (wants,makes)=>sel k makes.item makes.n - takesR wants k|none=>0):=by
 unfold craftA at h ⊢
 split at h
 · rename_i h1;exact absurd h h1
 · rename_i h1
   obtain ⟨wants,makes,m1,_,_,_,m5⟩:=makeS_good (Decidable.not_not.1 h1)
   rw [if_neg h1,tw_set_p h hp.get,m1]
   have:=m5 k
   unfold pc
   show tw k w + (countS (makeS p.bag c.c).1 k + countS p.offer k) - (countS p.bag k + countS p.offer k) = tw k w + (sel k makes.item makes.n - takesR wants k)
   omega
theorem eat_count {w : Wld} {p : Player} (hp : Here w p) (h : (eatA w p).2 = 0) (k : Int) : tw k (eatA w p).1 = tw k w - sel k 11 1:=by
 unfold eatA at h ⊢
 split at h
 · rename_i h1;exact absurd h h1
 · rename_i h1
   obtain ⟨m1,m2,m3,m4⟩:=spendS_good (by decide) (Decidable.not_not.1 h1)
   obtain ⟨_,_,m7⟩:=spendL_props (i:=11) (by decide) m1 (by omega) m3
   rw [if_neg h1,tw_set_p h hp.get,m4]
   have:=m7 k
   unfold pc
   dsimp only
   omega
theorem sets_count {w : Wld} {p q p' q' : Player} (hp : Here w p) (hq : Here w q) (hne : ¬ p.id = q.id) (h1 : p'.id = p.id) (h2 : q'.id = q.id) (hs : (setW w q').2 = 0) (ht : (setW (setW w q').1 p').2 = 0) (k : Int) :
   tw k (setW (setW w q').1 p').1 = tw k w + pc k p' + pc k q' - pc k p - pc k q:=by
 obtain ⟨s1,s2⟩:=set_good hs
 have hg : getK pid (setW w q').1.players p'.id = some p:=by
   rw [s2]
   show getK pid (setL w.players q') p'.id = some p
   rw [getK_setL hp.rw.rp,if_neg (by rw [h1,h2];exact hne),h1]
   exact hp.get
 rw [tw_set_p ht hg,tw_set_p hs (by rw [h2];exact hq.get)]
 omega
theorem kept_pc {p q a b : Player} (h : KeptP p q a b) (k : Int) : pc k a + pc k b = pc k p + pc k q:=by
 have:=h.sum k
 unfold haveP at this
 unfold pc
 omega
theorem deal_count {w : Wld} {p : Player} {c : Cmd} (hp : Here w p) (h : (dealA w p c).2 = 0) (k : Int) : tw k (dealA w p c).1 = tw k w:=by
 have hpm:=mayB_in hp.rw hp.sound.1 hp.sound.2
 unfold dealA at h ⊢
 dsimp only at h ⊢
 generalize (if c.dol = 11 then c.a else p.wth) = wth at *
 split at h
 · split at h<;>simp at h
 · rename_i h1
   rw [if_neg h1]
   obtain ⟨hq,hqi⟩:=here_of hp.rw (id:=wth) (by simpa using h1)
   generalize (playerW w wth).1 = q at *
   have hqm:=mayB_in hq.rw hq.sound.1 hq.sound.2
   split at h
   · simp at h
   · rename_i h2
     rw [if_neg h2]
     generalize hr : (if c.dol = 11 then offerP p q c.c c.n else if c.dol = 12 then ((agreeP p q).1,(agreeP p q).2.1,(agreeP p q).2.2.2) else cancelP p q) = r at *
     split at h
     · rename_i h3;exact absurd h h3
     · rename_i h3
       rw [if_neg h3]
       split at h
       · rename_i h4;exact absurd h h4
       · rename_i h4
         rw [if_neg h4]
         have hne : ¬ p.id = q.id:=by
           intro he
           have h5 : r.2.2 = 0:=Decidable.not_not.1 h3
           rw [← hr,offer_same he,agree_same he,cancel_same he] at h5
           revert h5
           (repeat' split)<;>simp
         have hk : KeptP p q r.1 r.2.1:=by
           rw [← hr]
           split
           · exact offer_kept hpm hqm hne _ _
           · split
             · exact (agree_kept hpm hqm hne).1
             · exact cancel_kept hpm hqm
         rw [sets_count hp hq hne hk.ia hk.ib (Decidable.not_not.1 h4) h]
         have:=kept_pc hk k
         omega
open Go Go.RowKit Eng
inductive Eff (w : Wld) (p : Player) (c : Cmd) : Wld → Prop where
 | stay (p' : Player) (hi : p'.id = p.id) (hs : setOk w p') : Eff w p c (withP w (setL w.players p'))
 | keep (k : Chunk) (p' : Player) (x y : Int) (hi : p'.id = p.id) (hx : p'.x = p.x) (hy : p'.y = p.y) (hw : p'.wth = p.wth) (hk : rightB k = true) (hm : max k.x k.y < w.size) (h1 : k.x = x / 8) (h2 : k.y = y / 8) (hn : nearP p x y = true)
     (hs : setOk (withCs w (putL w.seed w.chunks k)) p') : Eff w p c (withP (withCs w (putL w.seed w.chunks k)) (setL w.players p'))
 | deal (p' q q' : Player) (hq : Here w q) (hi : p'.id = p.id) (hj : q'.id = q.id) (hne : ¬ p.id = q.id) (hx : p'.x = p.x) (hy : p'.y = p.y) (hqx : q'.x = q.x) (hqy : q'.y = q.y)
     (hw : q.id = p.wth ∨ (c.dol = 11 ∧ q.id = c.a)) (hkq : ¬ q.wth = p.id → q' = q) (hs : setOk w q') (ht : setOk (withP w (setL w.players q')) p') : Eff w p c (withP w (setL (setL w.players q') p'))
open Go Go.RowKit Eng
theorem key_xy {a b x y : Int} (ha : 0 ≤ a ∧ a < 16) (hx : 0 ≤ x ∧ x < 16) (h : 16 * y + x = 16 * b + a) : x = a ∧ y = b:=by omega
theorem Eff.size {w n : Wld} {p : Player} {c : Cmd} (h : Eff w p c n) : n.size = w.size ∧ n.seed = w.seed ∧ n.tick = w.tick:=by
 cases h<;>exact ⟨rfl,rfl,rfl⟩
def nearS (p : Player) (x y : Int) : Bool:=decide (8 * x ≤ p.x + 3) && (decide (p.x - 3 < 8 * x + 8) && (decide (8 * y ≤ p.y + 3) && decide (p.y - 3 < 8 * y + 8)))
theorem Eff.chunk {w n : Wld} {p : Player} {c : Cmd} (h : Eff w p c n) (hR : RW w) (hn : RW n) {x y : Int} (hx : 0 ≤ x ∧ x < w.size) (hy : 0 ≤ y ∧ y < w.size) (hf : nearS p x y = false) : (chunkW n x y).1 = (chunkW w x y).1:=by
 have hs:=hR.size
 obtain ⟨e1,e2,_⟩:=h.size
 rw [(chunkW_in hR hx hy).1,(chunkW_in hn (by rw [e1];exact hx) (by rw [e1];exact hy)).1,e2]
 cases h with
 | stay p' hi hs=>rfl
 | deal p' q q'=>rfl
 | keep k p' X Y hi hX hY hw hk hm h1 h2 hN hs =>
   show (match getK keyC (putL w.seed w.chunks k) (keyC (atC x y)) with|some c=>c|none=>genC w.seed x y,true).1 = _
   have hne : ¬ keyC (atC x y) = keyC k:=by
     intro he
     have hkp:=rightB_pos hk
     have he' : 16 * y + x = 16 * k.y + k.x:=he
     obtain ⟨rfl,rfl⟩:=key_xy (a:=k.x) (b:=k.y) (by omega) (by omega) he'
     unfold nearS at hf
     unfold nearP at hN
     simp only [Bool.and_eq_true,Bool.and_eq_false_iff,decide_eq_true_eq,decide_eq_false_iff_not] at hf hN
     omega
   rw [getK_putL hR.rc,if_neg hne]
   rfl
theorem playerW_get {w : Wld} (hR : RW w) (id : Int) : playerW w id = match getK pid w.players id with|some p=>(p,true)|none=>(zeroP,false):=by
 unfold playerW;rw [if_neg (by rw [rightW_iff.2 hR];simp)];rfl
theorem Eff.player {w n : Wld} {p q : Player} {c : Cmd} (h : Eff w p c n) (hR : RW w) (hn : RW n) (hq : q ∈ w.players) :
   ∃ r,playerW n q.id = (r,true) ∧ (¬ q.id = p.id → (r.x = q.x ∧ r.y = q.y) ∧ (¬ q.wth = p.id → r = q) ∧ (¬ q.id = p.wth → ¬ (c.dol = 11 ∧ c.a = q.id) → r = q)):=by
 have hg:=getK_of_mem (key:=pid) hR.rp hq
 rw [playerW_get hn]
 cases h with
 | stay p' hi hs =>
   rw [show (withP w (setL w.players p')).players = setL w.players p' from rfl,getK_setL hR.rp]
   by_cases he : q.id = p'.id
   · rw [if_pos he];exact ⟨p',rfl,fun hne=>absurd (he.trans hi) hne⟩
   · rw [if_neg he,show getK pid w.players q.id = some q from hg];exact ⟨q,rfl,fun _=>⟨⟨rfl,rfl⟩,fun _=>rfl,fun _ _=>rfl⟩⟩
 | keep k p' X Y hi hX hY hw hk hm h1 h2 hN hs =>
   rw [show (withP (withCs w (putL w.seed w.chunks k)) (setL w.players p')).players = setL w.players p' from rfl,getK_setL hR.rp]
   by_cases he : q.id = p'.id
   · rw [if_pos he];exact ⟨p',rfl,fun hne=>absurd (he.trans hi) hne⟩
   · rw [if_neg he,show getK pid w.players q.id = some q from hg];exact ⟨q,rfl,fun _=>⟨⟨rfl,rfl⟩,fun _=>rfl,fun _ _=>rfl⟩⟩
 | deal p' z z' hz hi hj hne hx hy hzx hzy hw hkq hs ht =>
   rw [show (withP w (setL (setL w.players z') p')).players = setL (setL w.players z') p' from rfl,getK_setL (risesK_setL hR.rp),getK_setL hR.rp]
   by_cases he : q.id = p'.id
   · rw [if_pos he];exact ⟨p',rfl,fun hne=>absurd (he.trans hi) hne⟩
   · rw [if_neg he]
     by_cases hf : q.id = z'.id
     · rw [if_pos hf]
       have hqz : q = z:=by
         have h2:=hz.get
         rw [← hj,← hf,show getK pid w.players q.id = some q from hg] at h2
         exact Option.some.inj h2
       subst hqz
       refine ⟨z',rfl,fun _=>⟨⟨hzx,hzy⟩,hkq,fun h3 h4=>?_⟩⟩
       rcases hw with hw|hw
       · exact absurd hw h3
       · exact absurd ⟨hw.1,hw.2.symm⟩ h4
     · rw [if_neg hf,show getK pid w.players q.id = some q from hg];exact ⟨q,rfl,fun _=>⟨⟨rfl,rfl⟩,fun _=>rfl,fun _ _=>rfl⟩⟩
theorem apply_cases {w : Wld} (hR : RW w) (id : Int) (c : Cmd) :
   (¬ (applyW w id c).2 = 0 ∧ (applyW w id c).1 = w) ∨
   ((playerW w id).2 = false ∧ c.dol = 1 ∧ rightD c = true ∧ ∃ p',p'.id = id ∧ p' = ⟨id,spawnX w.size id,0,newB8,-1,[],false⟩ ∧ setOk w p' ∧ applyW w id c = (withP w (setL w.players p'),0)) ∨
   ((playerW w id).2 = true ∧ ¬ c.dol = 1 ∧ rightD c = true ∧ Here w (playerW w id).1 ∧ (playerW w id).1.id = id ∧ (actA w (playerW w id).1 c).2 = 0 ∧ applyW w id c = ((actA w (playerW w id).1 c).1,0)):=by
 by_cases he : (applyW w id c).2 = 0
 · right
   have hr:=rightW_iff.2 hR
   unfold applyW at he ⊢
   rw [if_neg (by rw [hr];simp)] at he ⊢
   split at he
   · simp at he
   · rename_i h1
     rw [if_neg h1]
     have h1' : rightD c = true:=by simpa using h1
     split at he
     · simp at he
     · rename_i h2
       rw [if_neg h2]
       split at he
       · rename_i h3
         rw [if_pos h3]
         left
         obtain ⟨s1,s2⟩:=set_good he
         refine ⟨?_,h3,h1',_,rfl,rfl,s1,?_⟩
         · rw [decide_eq_true h3] at h2;simpa using h2
         · rw [set_eq s1]
       · rename_i h3
         rw [if_neg h3]
         split at he
         · rename_i h4;exact absurd he h4
         · rename_i h4
           right
           have hp : (playerW w id).2 = true:=by rw [decide_eq_false h3] at h2;simpa using h2
           obtain ⟨a,b⟩:=here_of hR hp
           exact ⟨hp,h3,h1',a,b,Decidable.not_not.1 h4,by rw [if_neg h4]⟩
 · left;exact ⟨he,apply_err he⟩
end Go.Proofs.YtkojlembanldcaaGreat
