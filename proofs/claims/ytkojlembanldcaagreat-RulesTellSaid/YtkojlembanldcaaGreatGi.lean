/- The rules as Lean functions, and their plain laws. -/
import Derived.Test.YtkojlembanldcaaGreatGg
import Derived.Test.YtkojlembanldcaaGreatGh
import Derived.Test.YtkojlembanldcaaGreatGc
set_option linter.unusedSimpArgs false
set_option linter.unusedVariables false
set_option maxRecDepth 100000
set_option maxHeartbeats 16000000
namespace Go.Proofs.YtkojlembanldcaaGreat
open Go Go.RowKit Eng
def rngB (lo hi n : Int) : Bool:=decide (lo ≤ n) && decide (n ≤ hi)
def zeroB (n : Int) : Bool:=decide (n = 0)
def rightD (c : Cmd) : Bool:=
 if c.dol = 1 ∨ c.dol = 5 ∨ c.dol = 10 ∨ c.dol = 12 ∨ c.dol = 13 then zeroB c.a && (zeroB c.b && (zeroB c.c && zeroB c.n))
 else if c.dol = 2 then rngB (-1) 1 c.a && (rngB (-1) 1 c.b && (zeroB c.c && zeroB c.n))
 else if c.dol = 3 then rngB 0 127 c.a && (rngB 0 127 c.b && (zeroB c.c && zeroB c.n))
 else if c.dol = 4 then rngB 0 127 c.a && (rngB 0 127 c.b && (rngB 0 7 c.c && zeroB c.n))
 else if c.dol = 6 then zeroB c.a && (zeroB c.b && (rngB 0 7 c.c && rngB 1 1000 c.n))
 else if c.dol = 7 ∨ c.dol = 8 then rngB 0 127 c.a && (rngB 0 127 c.b && (rngB 0 7 c.c && rngB 1 1000 c.n))
 else if c.dol = 9 then zeroB c.a && (zeroB c.b && (rngB 0 1000 c.c && zeroB c.n))
 else if c.dol = 11 then rngB 0 1073741824 c.a && (zeroB c.b && (rngB 0 7 c.c && rngB 1 1000 c.n))
 else false
def spendR (i : Int) : List Slot → Int → List Slot
 | [],_=>[]
 | s :: r,n=>if n ≤ 0 then s :: r else if s.item = i then lessS s (min s.n n) :: spendR i r (n - min s.n n) else s :: spendR i r n
def spendL (l : List Slot) (i n : Int) : List Slot:=(spendR i l.reverse n).reverse
def spendS (l : List Slot) (i n : Int) : List Slot × Int:=
 if bagOk l = false then (l,103) else if n < 1 then (l,111) else if countS l i < n then (l,105) else (spendL l i n,0)
def recipesL : List (List Slot × Slot):=[([⟨3,1⟩],⟨5,4⟩),([⟨5,2⟩],⟨6,4⟩),([⟨5,8⟩],⟨9,1⟩),([⟨6,1⟩,⟨7,1⟩],⟨10,4⟩),([⟨7,1⟩,⟨3,1⟩],⟨8,1⟩),([⟨6,2⟩,⟨8,3⟩],⟨12,1⟩),([⟨2,4⟩,⟨1,1⟩],⟨7,1⟩)]
def recipeN (n : Int) : Option (List Slot × Slot):=if n < 0 then none else recipesL[n.toNat]?
def makeS (l : List Slot) (n : Int) : List Slot × Int:=
 if bagOk l = false then (l,103) else match recipeN n with
  | none=>(l,112)
  | some (wants,makes)=>if wants.any (fun s=>decide (countS l s.item < s.n)) = true then (l,105)
   else if 0 < (putS (wants.foldl (fun b s=>(spendS b s.item s.n).1) l) makes.item makes.n).2 then (l,104)
   else ((putS (wants.foldl (fun b s=>(spendS b s.item s.n).1) l) makes.item makes.n).1,0)
def nearP (p : Player) (x y : Int) : Bool:=decide (max (x - p.x) (-(x - p.x)) ≤ 3) && decide (max (y - p.y) (-(y - p.y)) ≤ 3)
def placeC (w : Wld) (x y : Int) : Chunk:=(chunkW w (x / 8) (y / 8)).1
def placeI (x y : Int) : Int:=y % 8 * 8 + x % 8
def aimE (w : Wld) (p : Player) (x y : Int) : Int:=if withinW w.size x y = false then 102 else if nearP p x y = false then 106 else 0
def keepA (w : Wld) (k : Chunk) (p : Player) : Wld × Int:=if ¬ (putW w k).2 = 0 then (w,(putW w k).2) else setW (putW w k).1 p
def moveA (w : Wld) (p : Player) (c : Cmd) : Wld × Int:=
 if withinW w.size (p.x + c.a) (p.y + c.b) = false then (w,102) else if ¬ (atW w (p.x + c.a) (p.y + c.b)).1 = 0 then (w,107)
 else setW w { p with x:=p.x + c.a,y:=p.y + c.b }
abbrev cellA (k : Chunk) (i : Int) : Int:=elt .u8 k.cells i.toNat
def breakA (w : Wld) (p : Player) (c : Cmd) : Wld × Int:=
 if ¬ aimE w p c.a c.b = 0 then (w,aimE w p c.a c.b) else
 if cellA (placeC w c.a c.b) (placeI c.a c.b) = 0 then (w,107) else
 if ¬ (setC (placeC w c.a c.b) (placeI c.a c.b) 0).2 = 0 then (w,(setC (placeC w c.a c.b) (placeI c.a c.b) 0).2) else
 if 0 < (putS p.bag (givesI (cellA (placeC w c.a c.b) (placeI c.a c.b))) 1).2 then (w,104) else
 keepA w (setC (placeC w c.a c.b) (placeI c.a c.b) 0).1 { p with bag:=(putS p.bag (givesI (cellA (placeC w c.a c.b) (placeI c.a c.b))) 1).1 }
def standsB (c : Cmd) (q : Player) : Bool:=decide (q.x = c.a) && decide (q.y = c.b)
def placeA (w : Wld) (p : Player) (c : Cmd) : Wld × Int:=
 if ¬ aimE w p c.a c.b = 0 then (w,aimE w p c.a c.b) else
 if ¬ (takeS p.bag c.c 1).2.2 = 0 then (w,(takeS p.bag c.c 1).2.2) else
 if blockB (takeS p.bag c.c 1).2.1.item = false then (w,100) else
 if ¬ cellA (placeC w c.a c.b) (placeI c.a c.b) = 0 ∨ w.players.any (standsB c) = true then (w,107) else
 if ¬ (setC (placeC w c.a c.b) (placeI c.a c.b) (takeS p.bag c.c 1).2.1.item).2 = 0 then (w,(setC (placeC w c.a c.b) (placeI c.a c.b) (takeS p.bag c.c 1).2.1.item).2) else
 keepA w (setC (placeC w c.a c.b) (placeI c.a c.b) (takeS p.bag c.c 1).2.1.item).1 { p with bag:=(takeS p.bag c.c 1).1 }
def dropA (w : Wld) (p : Player) (c : Cmd) : Wld × Int:=
 if ¬ (takeS p.bag c.c c.n).2.2 = 0 then (w,(takeS p.bag c.c c.n).2.2) else
 if ¬ (dropC (placeC w p.x p.y) (placeI p.x p.y) (takeS p.bag c.c c.n).2.1).2 = 0 then (w,(dropC (placeC w p.x p.y) (placeI p.x p.y) (takeS p.bag c.c c.n).2.1).2) else
 keepA w (dropC (placeC w p.x p.y) (placeI p.x p.y) (takeS p.bag c.c c.n).2.1).1 { p with bag:=(takeS p.bag c.c c.n).1 }
def pickA (cell : Int) : List Slot → Chunk × List Slot × Bool → Chunk × List Slot × Bool
 | [],a=>a
 | s :: r,(k,b,z)=>pickA cell r (if 0 < (putS b s.item s.n).2 then (dropC k cell ⟨s.item,(putS b s.item s.n).2⟩).1 else k,(putS b s.item s.n).1,z || decide ((putS b s.item s.n).2 < s.n))
def takeA (w : Wld) (p : Player) : Wld × Int:=
 let k:=liftC (placeC w p.x p.y) (placeI p.x p.y)
 if k.2.length = 0 then (w,105) else
 let r:=pickA (placeI p.x p.y) k.2 (k.1,p.bag,false)
 if r.2.2 = false then (w,104) else keepA w r.1 { p with bag:=r.2.1 }
def movedA (fr to_ : List Slot) (a n : Int) : List Slot × List Slot × Int:=
 if ¬ (takeS fr a n).2.2 = 0 then ([],[],(takeS fr a n).2.2) else
 if 0 < (putS to_ (takeS fr a n).2.1.item (takeS fr a n).2.1.n).2 then ([],[],104) else
 ((takeS fr a n).1,(putS to_ (takeS fr a n).2.1.item (takeS fr a n).2.1.n).1,0)
def storeA (w : Wld) (p : Player) (c : Cmd) : Wld × Int:=
 if ¬ aimE w p c.a c.b = 0 then (w,aimE w p c.a c.b) else
 if (boxC (placeC w c.a c.b) (placeI c.a c.b)).2 = false then (w,107) else
 let m:=if c.dol = 7 then movedA p.bag (boxC (placeC w c.a c.b) (placeI c.a c.b)).1 c.c c.n else movedA (boxC (placeC w c.a c.b) (placeI c.a c.b)).1 p.bag c.c c.n
 if ¬ m.2.2 = 0 then (w,m.2.2) else
 let b:=if c.dol = 7 then m.2.1 else m.1
 let q:=if c.dol = 7 then m.1 else m.2.1
 if ¬ (fillC (placeC w c.a c.b) (placeI c.a c.b) b).2 = 0 then (w,(fillC (placeC w c.a c.b) (placeI c.a c.b) b).2) else
 keepA w (fillC (placeC w c.a c.b) (placeI c.a c.b) b).1 { p with bag:=q }
def craftA (w : Wld) (p : Player) (c : Cmd) : Wld × Int:=if ¬ (makeS p.bag c.c).2 = 0 then (w,(makeS p.bag c.c).2) else setW w { p with bag:=(makeS p.bag c.c).1 }
def eatA (w : Wld) (p : Player) : Wld × Int:=if ¬ (spendS p.bag 11 1).2 = 0 then (w,(spendS p.bag 11 1).2) else setW w { p with bag:=(spendS p.bag 11 1).1 }
def dealA (w : Wld) (p : Player) (c : Cmd) : Wld × Int:=
 let wth:=if c.dol = 11 then c.a else p.wth
 if (playerW w wth).2 = false then (w,if c.dol = 11 then 110 else 108) else
 let q:=(playerW w wth).1
 if ¬ c.dol = 13 ∧ nearP p q.x q.y = false then (w,106) else
 let r : Player × Player × Int:=if c.dol = 11 then offerP p q c.c c.n else if c.dol = 12 then ((agreeP p q).1,(agreeP p q).2.1,(agreeP p q).2.2.2) else cancelP p q
 if ¬ r.2.2 = 0 then (w,r.2.2) else
 if ¬ (setW w r.2.1).2 = 0 then (w,(setW w r.2.1).2) else setW (setW w r.2.1).1 r.1
def actA (w : Wld) (p : Player) (c : Cmd) : Wld × Int:=
 if c.dol = 2 then moveA w p c else if c.dol = 3 then breakA w p c else if c.dol = 4 then placeA w p c else if c.dol = 5 then takeA w p else if c.dol = 6 then dropA w p c
 else if c.dol = 7 ∨ c.dol = 8 then storeA w p c else if c.dol = 9 then craftA w p c else if c.dol = 10 then eatA w p else dealA w p c
def applyW (w : Wld) (id : Int) (c : Cmd) : Wld × Int:=
 if rightW w = false then (w,113) else if rightD c = false then (w,109)
 else if (playerW w id).2 = decide (c.dol = 1) then (w,110)
 else if c.dol = 1 then setW w ⟨id,spawnX w.size id,0,newB8,-1,[],false⟩
 else if ¬ (actA w (playerW w id).1 c).2 = 0 then (w,(actA w (playerW w id).1 c).2) else ((actA w (playerW w id).1 c).1,0)
open Go Go.RowKit Eng
theorem set_good {w : Wld} {p : Player} (h : (setW w p).2 = 0) : setOk w p ∧ (setW w p).1 = withP w (setL w.players p):=by
 have hk : setOk w p:=by
  rcases set_err w p with h1|⟨_,h1⟩
  ·exact h1.1
  ·rcases h1 with h1|h1|h1<;>(have:=h1.1;omega)
 exact ⟨hk,by rw [set_eq hk]⟩
theorem put_good {w : Wld} {c : Chunk} (h : (putW w c).2 = 0) : RW w ∧ rightB c = true ∧ max c.x c.y < w.size ∧ (putW w c).1 = withCs w (putL w.seed w.chunks c):=by
 rcases put_err w c with h1|⟨_,h1⟩
 ·exact ⟨h1.1,h1.2.1,h1.2.2.1,by rw [put_eq h1.1 h1.2.1 h1.2.2.1]⟩
 ·rcases h1 with h1|h1<;>(have:=h1.1;omega)
theorem keep_good {w : Wld} {k : Chunk} {p : Player} (h : (keepA w k p).2 = 0) : RW w ∧ rightB k = true ∧ max k.x k.y < w.size ∧ setOk (withCs w (putL w.seed w.chunks k)) p ∧
  (keepA w k p).1 = withP (withCs w (putL w.seed w.chunks k)) (setL w.players p):=by
 unfold keepA at h ⊢
 by_cases h1 : (putW w k).2 = 0
 ·rw [if_neg (not_not_intro h1)] at h ⊢
  obtain ⟨a1,a2,a3,a4⟩:=put_good h1
  obtain ⟨b1,b2⟩:=set_good h
  rw [a4] at b1 b2 ⊢
  exact ⟨a1,a2,a3,b1,b2⟩
 ·rw [if_pos h1] at h;exact absurd h h1
theorem keep_rw {w : Wld} {k : Chunk} {p : Player} (h : (keepA w k p).2 = 0) : RW (keepA w k p).1:=by
 obtain ⟨_,_,_,h4,h5⟩:=keep_good h
 rw [h5];exact rw_set h4
theorem set_rw {w : Wld} {p : Player} (h : (setW w p).2 = 0) : RW (setW w p).1:=by
 obtain ⟨h1,h2⟩:=set_good h
 rw [h2];exact rw_set h1
def GoodA (r : Wld × Int) : Prop:=r.2 = 0 → RW r.1
theorem good_err {w : Wld} {e : Int} (h : ¬ e = 0) : GoodA (w,e):=fun h2=>absurd h2 h
theorem good_set (w : Wld) (p : Player) : GoodA (setW w p):=set_rw
theorem good_keep (w : Wld) (k : Chunk) (p : Player) : GoodA (keepA w k p):=keep_rw
theorem good_ite {c : Prop} [Decidable c] {a b : Wld × Int} (h1 : c → GoodA a) (h2 : ¬ c → GoodA b) : GoodA (if c then a else b):=by
 by_cases h : c
 ·rw [if_pos h];exact h1 h
 ·rw [if_neg h];exact h2 h
theorem moveA_good (w : Wld) (p : Player) (c : Cmd) : GoodA (moveA w p c):=by
 unfold moveA
 exact good_ite (fun h=>good_err (by decide)) (fun _=>good_ite (fun h=>good_err (by decide)) (fun _=>good_set _ _))
theorem breakA_good (w : Wld) (p : Player) (c : Cmd) : GoodA (breakA w p c):=by
 unfold breakA
 exact good_ite (fun h=>good_err (h)) (fun _=>good_ite (fun h=>good_err (by decide)) (fun _=>good_ite (fun h=>good_err (h)) (fun _=>good_ite (fun h=>good_err (by decide)) (fun _=>good_keep _ _ _))))
theorem placeA_good (w : Wld) (p : Player) (c : Cmd) : GoodA (placeA w p c):=by
 unfold placeA
 exact good_ite (fun h=>good_err (h)) (fun _=>good_ite (fun h=>good_err (h)) (fun _=>good_ite (fun h=>good_err (by decide)) (fun _=>good_ite (fun h=>good_err (by decide)) (fun _=>good_ite (fun h=>good_err (h)) (fun _=>good_keep _ _ _)))))
theorem dropA_good (w : Wld) (p : Player) (c : Cmd) : GoodA (dropA w p c):=by
 unfold dropA
 exact good_ite (fun h=>good_err (h)) (fun _=>good_ite (fun h=>good_err (h)) (fun _=>good_keep _ _ _))
theorem takeA_good (w : Wld) (p : Player) : GoodA (takeA w p):=by
 unfold takeA
 exact good_ite (fun h=>good_err (by decide)) (fun _=>good_ite (fun h=>good_err (by decide)) (fun _=>good_keep _ _ _))
theorem storeA_good (w : Wld) (p : Player) (c : Cmd) : GoodA (storeA w p c):=by
 unfold storeA
 exact good_ite (fun h=>good_err (h)) (fun _=>good_ite (fun h=>good_err (by decide)) (fun _=>good_ite (fun h=>good_err (h)) (fun _=>good_ite (fun h=>good_err (h)) (fun _=>good_keep _ _ _))))
theorem craftA_good (w : Wld) (p : Player) (c : Cmd) : GoodA (craftA w p c):=by
 unfold craftA
 exact good_ite (fun h=>good_err (h)) (fun _=>good_set _ _)
theorem eatA_good (w : Wld) (p : Player) : GoodA (eatA w p):=by
 unfold eatA
 exact good_ite (fun h=>good_err (h)) (fun _=>good_set _ _)
theorem dealA_good (w : Wld) (p : Player) (c : Cmd) : GoodA (dealA w p c):=by
 unfold dealA
 exact good_ite (fun h=>good_err (by split<;>decide)) (fun _=>good_ite (fun h=>good_err (by decide)) (fun _=>good_ite (fun h=>good_err (h)) (fun _=>good_ite (fun h=>good_err (h)) (fun _=>good_set _ _))))
theorem act_good (w : Wld) (p : Player) (c : Cmd) : GoodA (actA w p c):=by
 unfold actA
 exact good_ite (fun _=>moveA_good _ _ _) fun _=>good_ite (fun _=>breakA_good _ _ _) fun _=>good_ite (fun _=>placeA_good _ _ _) fun _=>good_ite (fun _=>takeA_good _ _) fun _=>good_ite (fun _=>dropA_good _ _ _) fun _ =>
  good_ite (fun _=>storeA_good _ _ _) fun _=>good_ite (fun _=>craftA_good _ _ _) fun _=>good_ite (fun _=>eatA_good _ _) fun _=>dealA_good _ _ _
theorem act_rw {w : Wld} {p : Player} {c : Cmd} (h : (actA w p c).2 = 0) : RW (actA w p c).1:=act_good w p c h
theorem apply_rw {w : Wld} {id : Int} {c : Cmd} (hR : rightW w = true) : RW (applyW w id c).1:=by
 have hRW:=rightW_iff.1 hR
 unfold applyW
 rw [if_neg (by rw [hR];simp)]
 split
 ·exact hRW
 ·split
  ·exact hRW
  ·split
   ·by_cases h : (setW w ⟨id,spawnX w.size id,0,newB8,-1,[],false⟩).2 = 0
    ·exact set_rw h
    ·rcases set_err w ⟨id,spawnX w.size id,0,newB8,-1,[],false⟩ with h1|h1
     ·exact absurd h1.2 h
     ·rw [h1.1];exact hRW
   ·split
    ·exact hRW
    ·rename_i h;exact act_rw (Decidable.not_not.1 h)
theorem apply_err {w : Wld} {id : Int} {c : Cmd} (h : ¬ (applyW w id c).2 = 0) : (applyW w id c).1 = w:=by
 unfold applyW at h ⊢
 repeat' split
 all_goals first|rfl|skip
 ·rename_i h1 h2 h3 h4
  rw [if_neg h1,if_neg h2,if_neg h3,if_pos h4] at h
  rcases set_err w ⟨id,spawnX w.size id,0,newB8,-1,[],false⟩ with h1|h1
  ·exact absurd h1.2 h
  ·exact h1.1
 ·rename_i h1 h2 h3 h4 h5
  rw [if_neg h1,if_neg h2,if_neg h3,if_neg h4,if_neg h5] at h
  exact absurd rfl h
open Go Go.RowKit Eng
def addI (C : List Int) (s : Slot) : List Int:=C.set s.item.toNat (elt .i64 C s.item.toNat + s.n)
def inN (b n : Int) : Prop:=0 ≤ n ∧ n ≤ b
structure CntOk (C : List Int) (b : Int) : Prop where
 len : C.length = 13
 bd : ∀ i,i < 13 → inN b (elt .i64 C i)
def fitS (s : Slot) : Prop:=0 ≤ s.item ∧ s.item ≤ 12 ∧ 0 ≤ s.n ∧ s.n ≤ 16
theorem elt_addI {C : List Int} {s : Slot} (hl : C.length = 13) (hs : fitS s) (i : Nat) : elt .i64 (addI C s) i = if i = s.item.toNat then elt .i64 C i + s.n else elt .i64 C i:=by
 unfold addI
 obtain ⟨h0,h1,_,_⟩:=hs
 by_cases h : i = s.item.toNat
 ·rw [if_pos h];subst h
  unfold elt
  rw [List.getElem?_set_self (by omega)];rfl
 ·rw [if_neg h]
  unfold elt
  rw [List.getElem?_set_ne (fun e=>h e.symm)]
theorem CntOk.mono {C : List Int} {b c : Int} (h : CntOk C b) (hb : b ≤ c) : CntOk C c:=⟨h.len,fun i hi=>by have:=h.bd i hi;unfold inN at *;omega⟩
theorem CntOk.add {C : List Int} {b : Int} {s : Slot} (h : CntOk C b) (hs : fitS s) : CntOk (addI C s) (b + 16):=by
 refine ⟨by unfold addI;rw [List.length_set];exact h.len,fun i hi=>?_⟩
 rw [elt_addI h.len hs]
 have:=h.bd i hi
 obtain ⟨_,_,h2,h3⟩:=hs
 unfold inN at *
 split<;>omega
theorem CntOk.foldl {l : List Slot} : ∀ {C : List Int} {b : Int},CntOk C b → (∀ s ∈ l,fitS s) → CntOk (l.foldl addI C) (b + 16 * l.length):=by
 induction l with
 | nil=>intro C b h _;simpa using h
 | cons a r ih =>
  intro C b h hs
  have:=ih (h.add (hs a (by simp))) fun s hm=>hs s (List.mem_cons_of_mem _ hm)
  rw [List.foldl_cons]
  refine this.mono ?_
  rw [List.length_cons];omega
abbrev cntF (a : Nat) : AV:=.clo (.func 115) [] [.ptr a 0]
open Go Go.RowKit Eng
def slotsP (l : List Player) : List Slot:=l.flatMap fun p=>p.bag ++ p.offer
def slotsC (l : List Chunk) : List Slot:=l.flatMap fun c=>c.heaps.map (·.slot) ++ c.boxes.flatMap (·.bag)
def slotsW (w : Wld) : List Slot:=slotsP w.players ++ slotsC w.chunks
abbrev zeros13 : List Int:=List.replicate 13 0
structure FitW (w : Wld) : Prop where
 bag : ∀ p ∈ w.players,∀ s ∈ p.bag,fitS s
 offer : ∀ p ∈ w.players,∀ s ∈ p.offer,fitS s
 heap : ∀ c ∈ w.chunks,∀ h ∈ c.heaps,fitS h.slot
 box : ∀ c ∈ w.chunks,∀ b ∈ c.boxes,∀ s ∈ b.bag,fitS s
theorem mem_slotsP {l : List Player} {s : Slot} (h : s ∈ slotsP l) : ∃ p ∈ l,s ∈ p.bag ∨ s ∈ p.offer:=by
 unfold slotsP at h
 rw [List.mem_flatMap] at h
 obtain ⟨p,hp,hs⟩:=h
 exact ⟨p,hp,List.mem_append.1 hs⟩
theorem mem_slotsC {l : List Chunk} {s : Slot} (h : s ∈ slotsC l) : ∃ c ∈ l,(∃ h ∈ c.heaps,h.slot = s) ∨ ∃ b ∈ c.boxes,s ∈ b.bag:=by
 unfold slotsC at h
 rw [List.mem_flatMap] at h
 obtain ⟨c,hc,hs⟩:=h
 refine ⟨c,hc,(List.mem_append.1 hs).imp ?_ ?_⟩
 ·intro h;rw [List.mem_map] at h;exact h
 ·intro h;rw [List.mem_flatMap] at h;exact h
theorem FitW.fit {w : Wld} (h : FitW w) : ∀ s ∈ slotsW w,fitS s:=by
 intro s hs
 rcases List.mem_append.1 hs with hs|hs
 ·obtain ⟨p,hp,hs⟩:=mem_slotsP hs
  rcases hs with hs|hs
  ·exact h.bag p hp s hs
  ·exact h.offer p hp s hs
 ·obtain ⟨c,hc,hs⟩:=mem_slotsC hs
  rcases hs with ⟨x,hx,rfl⟩|⟨b,hb,hs⟩
  ·exact h.heap c hc x hx
  ·exact h.box c hc b hb s hs
open Go Go.RowKit Eng
def niceS (s : Slot) : Prop:=0 ≤ s.item ∧ s.item ≤ 12 ∧ 0 ≤ s.n ∧ s.n ≤ stackN s.item
theorem niceS.fit {s : Slot} (h : niceS s) : fitS s:=by have:=stackN_bd s.item;unfold niceS at h;unfold fitS;omega
theorem sound_parts {p : Player} (h : soundB p = true) : 0 ≤ p.id ∧ p.id ≤ 1073741824 ∧ (p.bag.length : Int) = 8 ∧ bagOk p.bag = true ∧ ((p.wth = -1 ∧ p.offer = [] ∧ p.agrees = false) ∨ (0 ≤ p.wth ∧ p.wth ≤ 1073741824 ∧ p.wth ≠ p.id ∧ (p.offer.length : Int) = 8 ∧ bagOk p.offer = true)):=by
 unfold soundB bag8 at h
 by_cases hw : p.wth = -1
 ·rw [if_pos hw] at h
  simp only [Bool.and_eq_true,decide_eq_true_eq,Bool.not_eq_true'] at h
  obtain ⟨h1,h2,⟨h3,h4⟩,h5,h6⟩:=h
  exact ⟨h1,h2,h3,h4,.inl ⟨hw,List.length_eq_zero_iff.1 (by omega),h6⟩⟩
 ·rw [if_neg hw] at h
  simp only [Bool.and_eq_true,decide_eq_true_eq,Bool.not_eq_true',decide_eq_false_iff_not] at h
  obtain ⟨h1,h2,⟨h3,h4⟩,h5,h6,h7,h8,h9⟩:=h
  exact ⟨h1,h2,h3,h4,.inr ⟨h5,h6,h7,h8,h9⟩⟩
theorem zeros_elt (i : Nat) (h : i < 13) : elt .i64 zeros13 i = (0 : Int):=by
 unfold elt;rw [List.getElem?_replicate];rw [if_pos h];rfl
open Go Go.RowKit Eng
theorem itemOk_bd {i : Int} (h : itemOk i = true) : 0 ≤ i ∧ i ≤ 12:=by
 unfold itemOk blockB at h
 simp only [Bool.or_eq_true,beq_iff_eq,Bool.and_eq_true,decide_eq_true_eq] at h
 omega
theorem someB_ok {s : Slot} (h : someB s = true) : okSlot s ∧ 1 ≤ s.n ∧ s.n ≤ 16:=by
 simp only [someB,Bool.and_eq_true,decide_eq_true_eq] at h
 have:=stackN_bd s.item
 exact ⟨stackN_item (by omega),by omega,by omega⟩
theorem right_heap {c : Chunk} (h : rightB c = true) {x : Heap} (hx : x ∈ c.heaps) : someB x.slot = true ∧ 0 ≤ x.cell ∧ x.cell < 64:=by
 have hh:=((right_iff c).1 h).2.2
 rw [List.any_eq_false] at hh
 have h2:=hh x hx
 simp only [badHeap,Bool.or_eq_true,Bool.not_eq_true',not_or,Bool.not_eq_false,Bool.and_eq_true,decide_eq_true_eq] at h2
 exact ⟨h2.2,h2.1⟩
theorem okC_right {c : Chunk} (h : rightB c = true) : OkC c:=by
 refine ⟨fun i hi=>by have:=itemOk_bd ((right_fits h).items i hi);omega,fun x hx=>(someB_ok (right_heap h hx).1).1,fun b hb=>?_,?_,?_,?_⟩
 ·obtain ⟨h1,h2⟩:=right_bag h hb
  exact ⟨bagOk_okSlot h2,by rw [h1];unfold big;omega⟩
 ·rw [right_len h];unfold big;omega
 ·have:=right_heaps h;unfold big;omega
 ·have:=right_boxes h;unfold big;omega
theorem okP_sound {p : Player} (h : soundB p = true) : OkP p:=by
 obtain ⟨_,_,h3,h4,h5⟩:=sound_parts h
 refine ⟨bagOk_okSlot h4,?_,by omega,?_⟩
 ·rcases h5 with ⟨_,h,_⟩|⟨_,_,_,_,h⟩
  ·rw [h];simp
  ·exact bagOk_okSlot h
 ·rcases h5 with ⟨_,h,_⟩|⟨_,_,_,h,_⟩
  ·rw [h];simp
  ·omega
theorem okW_rw {w : Wld} (h : RW w) : OkW w:=
 ⟨fun c hc=>okC_right (h.chunks c hc).1,fun c hc=>fitC_right (h.chunks c hc).1,fun p hp=>okP_sound (h.players p hp).1,by have:=h.few;omega,by have:=h.size;omega⟩
theorem cellI_ok (s x y : Int) : itemOk (cellI s x y) = true ∧ cellI s x y ≠ 9:=by
 unfold cellI
 simp only []
 (repeat' split)<;>exact ⟨by decide,by decide⟩
theorem right_gen {s x y : Int} (hx : 0 ≤ x ∧ x < 16) (hy : 0 ≤ y ∧ y < 16) : rightB (genC s x y) = true:=by
 rw [right_iff]
 have hl : (gl s x y 64).length = 64:=gl_len _ _ _ _
 have hm : ∀ i ∈ gl s x y 64,itemOk i = true ∧ i ≠ 9:=by
  intro i hi
  unfold gl at hi
  rw [List.mem_map] at hi
  obtain ⟨j,_,rfl⟩:=hi
  exact cellI_ok _ _ _
 refine ⟨?_,⟨fun i hi=>(hm i hi).1,trivial,by simp [genC],fun j hj=>?_⟩,rfl⟩
 ·unfold headB
  rw [show (genC s x y).cells.length = 64 from hl,show (genC s x y).heaps.length = 0 from rfl,show (genC s x y).x = x from rfl,show (genC s x y).y = y from rfl]
  simp only [Bool.and_eq_true,decide_eq_true_eq]
  omega
 ·have hj' : j < (gl s x y 64).length:=hj
  have hg : (genC s x y).cells.getD j 0 = (gl s x y 64)[j]:=by
   show (gl s x y 64).getD j 0 = _
   rw [List.getD_eq_getElem?_getD,List.getElem?_eq_getElem hj'];rfl
  rw [hg]
  have:=(hm _ (List.getElem_mem hj')).2
  simp [genC,getB,this]
theorem placeI_bd (x y : Int) : 0 ≤ placeI x y ∧ placeI x y < 64:=by unfold placeI;omega
theorem chunk_right {w : Wld} {x y : Int} (hR : RW w) (hx : 0 ≤ x ∧ x < w.size) (hy : 0 ≤ y ∧ y < w.size) : rightB (chunkW w x y).1 = true:=by
 have hs:=hR.size
 rw [(chunkW_in hR hx hy).1]
 dsimp only
 cases hg : getK keyC w.chunks (keyC (atC x y)) with
 | none=>exact right_gen (by omega) (by omega)
 | some c=>exact (hR.chunks c (getK_mem hg).1).1
theorem place_right {w : Wld} {x y : Int} (hR : RW w) (h : withinW w.size x y = true) : rightB (placeC w x y) = true ∧ (placeC w x y).x = x / 8 ∧ (placeC w x y).y = y / 8:=by
 have h1:=(within_iff hR).1 h
 obtain ⟨_,h3,h4⟩:=chunkW_in hR (x:=x / 8) (y:=y / 8) (by omega) (by omega)
 exact ⟨chunk_right hR (by omega) (by omega),h3,h4⟩
theorem aim_in {w : Wld} {p : Player} {x y : Int} (h : aimE w p x y = 0) : withinW w.size x y = true ∧ nearP p x y = true:=by
 unfold aimE at h
 split at h
 ·omega
 ·rename_i h1
  split at h
  ·omega
  ·rename_i h2
   exact ⟨Bool.not_eq_false _ ▸ h1,Bool.not_eq_false _ ▸ h2⟩
theorem rightH {c : Chunk} (h : rightB c = true) {l : List Heap} (hl : l.length ≤ 32) (hb : l.any badHeap = false) : rightB { c with heaps:=l } = true:=by
 obtain ⟨h1,h2,h3⟩:=(right_iff c).1 h
 rw [right_iff]
 refine ⟨?_,h2,hb⟩
 simp only [headB,Bool.and_eq_true,decide_eq_true_eq] at h1 ⊢
 exact ⟨h1.1,h1.2.1,h1.2.2.1,h1.2.2.2.1,h1.2.2.2.2.1,by omega⟩
theorem drop_right {c : Chunk} (h : rightB c = true) {t : Int} {s : Slot} (ht : 0 ≤ t ∧ t < 64) : rightB (dropC c t s).1 = true:=by
 unfold dropC
 rw [if_neg (by rw [h];simp),if_neg (by omega)]
 cases hs : someB s with
 | false=>rw [if_pos rfl];exact h
 | true =>
  rw [if_neg (by simp)]
  by_cases h32 : 32 ≤ c.heaps.length
  ·rw [if_pos h32];exact h
  ·rw [if_neg h32]
   refine rightH h (by simp;omega) ?_
   rw [List.any_append,((right_iff c).1 h).2.2]
   simp [badHeap,hs,ht]
theorem fill_right {c : Chunk} (h : rightB c = true) (t : Int) (l : List Slot) : rightB (fillC c t l).1 = true:=by
 rw [fillC_right h]
 split
 ·exact h
 ·rename_i h1
  split
  ·exact h
  ·rename_i h2
   exact right_upd h (by
    rw [there_iff (right_fits h).up]
    cases hh : (getB c.boxes t).isSome with
    | true=>rfl
    | false=>exact absurd hh h1) (by simpa using h2)
theorem lift_right {c : Chunk} (h : rightB c = true) (t : Int) : rightB (liftC c t).1 = true ∧ ∀ s ∈ (liftC c t).2,someB s = true:=by
 unfold liftC
 rw [if_pos h]
 refine ⟨rightH h (Nat.le_trans (List.length_filter_le _ _) (right_heaps h)) ?_,fun s hs=>?_⟩
 ·have hh:=((right_iff c).1 h).2.2
  rw [List.any_eq_false] at hh ⊢
  exact fun x hx=>hh x (List.mem_filter.1 hx).1
 ·simp only [hitsH,List.mem_map] at hs
  obtain ⟨x,hx,rfl⟩:=hs
  exact (right_heap h (List.mem_filter.1 hx).1).1
theorem box_right {c : Chunk} (h : rightB c = true) {t : Int} (hb : (boxC c t).2 = true) : (boxC c t).1.length = 6 ∧ bagOk (boxC c t).1 = true:=by
 rw [boxC_get h] at hb ⊢
 dsimp only at hb ⊢
 obtain ⟨s,hs⟩:=Option.isSome_iff_exists.1 hb
 obtain ⟨b,h1,_,h3⟩:=getB_mem hs
 rw [hs]
 show s.length = 6 ∧ bagOk s = true
 rw [← h3]
 exact right_bag h h1
theorem soundB_bag {p : Player} (h : soundB p = true) {l : List Slot} (h1 : l.length = 8) (h2 : bagOk l = true) : soundB { p with bag:=l } = true:=by
 unfold soundB at h ⊢
 simp only [Bool.and_eq_true,decide_eq_true_eq] at h ⊢
 refine ⟨h.1,h.2.1,?_,h.2.2.2⟩
 unfold bag8
 rw [h2,Bool.and_true,decide_eq_true_eq];omega
theorem soundB_at {p : Player} (h : soundB p = true) (x y : Int) : soundB { p with x:=x,y:=y } = true:=h
theorem okP_bag {p : Player} (h : OkP p) {l : List Slot} (h1 : ∀ s ∈ l,okSlot s) (h2 : l.length * 16 ≤ 140737488351232) : OkP { p with bag:=l }:=⟨h1,h.offer,h2,h.no⟩
theorem mayB_in {w : Wld} {p : Player} (hR : RW w) (h : soundB p = true) (h2 : withinW w.size p.x p.y = true) : mayB p = true:=by
 have h3:=(within_iff hR).1 h2
 have hs:=hR.size
 unfold mayB withinW
 rw [h,Bool.true_and,wr8_eq (by omega) (by omega)]
 simp only [Bool.and_eq_true,decide_eq_true_eq]
 omega
theorem offer_same {p q : Player} (h : p.id = q.id) (a n : Int) : offerP p q a n = (p,q,110):=by
 unfold offerP dealB;rw [decide_eq_true h];rfl
theorem agree_same {p q : Player} (h : p.id = q.id) : agreeP p q = (p,q,false,110):=by
 unfold agreeP dealB;rw [decide_eq_true h];rfl
theorem cancel_same {p q : Player} (h : p.id = q.id) : cancelP p q = (p,q,110):=by
 unfold cancelP dealB;rw [decide_eq_true h];rfl
theorem offer_may {p q : Player} (hp : mayB p = true) (hq : mayB q = true) (a n : Int) : mayB (offerP p q a n).1 = true ∧ mayB (offerP p q a n).2.1 = true:=by
 by_cases h : p.id = q.id
 ·rw [offer_same h];exact ⟨hp,hq⟩
 ·have:=offer_kept hp hq h a n;exact ⟨this.ma,this.mb⟩
theorem agree_may {p q : Player} (hp : mayB p = true) (hq : mayB q = true) : mayB (agreeP p q).1 = true ∧ mayB (agreeP p q).2.1 = true:=by
 by_cases h : p.id = q.id
 ·rw [agree_same h];exact ⟨hp,hq⟩
 ·have:=(agree_kept hp hq h).1;exact ⟨this.ma,this.mb⟩
theorem cancel_may {p q : Player} (hp : mayB p = true) (hq : mayB q = true) : mayB (cancelP p q).1 = true ∧ mayB (cancelP p q).2.1 = true:=by
 have:=cancel_kept hp hq;exact ⟨this.ma,this.mb⟩
open Go Go.RowKit Eng
def sumF {α : Type} (f : α → Int) : List α → Int
 | []=>0
 | a :: r=>f a + sumF f r
def pc (i : Int) (p : Player) : Int:=countS p.bag i + countS p.offer i
def bc (i : Int) (b : Box) : Int:=countS b.bag i
def cc (i : Int) (c : Chunk) : Int:=countS (c.heaps.map (·.slot)) i + sumF (bc i) c.boxes
def tw (i : Int) (w : Wld) : Int:=sumF (pc i) w.players + sumF (cc i) w.chunks
theorem countS_one (s : Slot) (i : Int) : countS [s] i = cnt i s:=by simp [countS]
theorem cc_drop {c : Chunk} (t : Int) (s : Slot) (h : (dropC c t s).2 = 0) (i : Int) : cc i (dropC c t s).1 = cc i c + cnt i s:=by
 unfold dropC at h ⊢
 split at h
 ·simp at h
 ·rename_i h1
  split at h
  ·simp at h
  ·rename_i h2
   split at h
   ·simp at h
   ·rename_i h3
    split at h
    ·simp at h
    ·rename_i h4
     rw [if_neg h1,if_neg h2,if_neg h3,if_neg h4]
     unfold cc
     simp only [List.map_append,List.map_cons,List.map_nil,countS_app,countS_one]
     omega
open Go Go.RowKit Eng
theorem countS_rev (i : Int) : ∀ l : List Slot,countS l.reverse i = countS l i
 | []=>rfl
 | s :: r=>by rw [List.reverse_cons,countS_app,countS_rev i r,countS_one];simp only [countS];omega
theorem spendR_len (i : Int) : ∀ (l : List Slot) (n : Int),(spendR i l n).length = l.length
 | [],_=>rfl
 | s :: r,n=>by
  simp only [spendR]
  split
  ·rfl
  ·split<;>simp only [List.length_cons,spendR_len i r]
theorem less_bad {s : Slot} {m : Int} (h : badSlot s = false) (h0 : 0 ≤ m) (h1 : m ≤ s.n) : badSlot (lessS s m) = false:=by
 have hs:=badSlot_false.1 h
 unfold lessS
 split
 ·exact badSlot_false.2 (.inl ⟨rfl,rfl⟩)
 ·refine badSlot_false.2 ?_
  rcases hs with hs|hs
  ·dsimp only;omega
  ·right;dsimp only;omega
theorem spendR_bad (i : Int) : ∀ (l : List Slot) (n : Int),(∀ s ∈ l,badSlot s = false) → ∀ s ∈ spendR i l n,badSlot s = false
 | [],_,_=>by simp [spendR]
 | a :: r,n,h=>by
  simp only [spendR]
  split
  ·exact h
  ·rename_i hn
   have ha:=h a (by simp)
   have ha2:=badSlot_false.1 ha
   have hst:=(stackN_bd a.item).1
   have ih:=fun m=>spendR_bad i r m fun s hs=>h s (by simp [hs])
   split
   ·intro s hs
    rcases List.mem_cons.1 hs with rfl|hs
    ·exact less_bad ha (by omega) (by omega)
    ·exact ih _ s hs
   ·intro s hs
    rcases List.mem_cons.1 hs with rfl|hs
    ·exact ha
    ·exact ih _ s hs
theorem cnt_less {s : Slot} {m : Int} (h0 : 0 ≤ m) (h1 : m ≤ s.n) (k : Int) : cnt k (lessS s m) + sel k s.item m = cnt k s:=by
 unfold lessS cnt sel
 by_cases hk : ¬ k = 0 ∧ s.item = k
 ·rw [if_pos hk,if_pos hk]
  by_cases hm : s.n - m = 0
  ·rw [if_pos hm]
   rw [if_neg (fun h=>h.1 h.2.symm)]
   omega
  ·rw [if_neg hm,if_pos (by dsimp only;exact hk)]
   dsimp only;omega
 ·rw [if_neg hk,if_neg hk]
  by_cases hm : s.n - m = 0
  ·rw [if_pos hm,if_neg (fun h=>h.1 h.2.symm)];omega
  ·rw [if_neg hm,if_neg (by dsimp only;exact hk)];omega
theorem countS_nn (i : Int) : ∀ l : List Slot,0 ≤ countS l i
 | []=>Int.le_refl _
 | s :: r=>by
  have ih:=countS_nn i r
  have : 0 ≤ cnt i s:=by unfold cnt;split<;>omega
  simp only [countS];omega
theorem spendR_count {i : Int} (hi : ¬ i = 0) : ∀ (l : List Slot) (n : Int),(∀ s ∈ l,0 ≤ s.n) → 0 ≤ n → n ≤ countS l i → ∀ k,countS (spendR i l n) k + sel k i n = countS l k
 | [],n,_,h0,h1,k=>by
  have : n = 0:=by simp only [countS] at h1;omega
  subst this
  simp [spendR,countS,sel_zero]
 | a :: r,n,h,h0,h1,k=>by
  simp only [spendR]
  by_cases hn : n ≤ 0
  ·rw [if_pos hn,show n = 0 by omega,sel_zero];omega
  ·rw [if_neg hn]
   have ha:=h a (by simp)
   simp only [countS] at h1
   by_cases hai : a.item = i
   ·rw [if_pos hai]
    have hc : cnt i a = a.n:=by unfold cnt;rw [if_pos ⟨hi,hai⟩];omega
    rw [hc] at h1
    have hnn:=countS_nn i r
    have ih:=spendR_count hi r (n - min a.n n) (fun s hs=>h s (by simp [hs])) (by omega) (by omega) k
    have hl:=cnt_less (s:=a) (m:=min a.n n) (by omega) (by omega) k
    rw [hai] at hl
    simp only [countS]
    have hs : sel k i n = sel k i (min a.n n) + sel k i (n - min a.n n):=by unfold sel;split<;>omega
    omega
   ·rw [if_neg hai]
    have hc : cnt i a = 0:=by unfold cnt;rw [if_neg (fun h=>hai h.2)]
    rw [hc] at h1
    have ih:=spendR_count hi r n (fun s hs=>h s (by simp [hs])) h0 (by omega) k
    simp only [countS]
    omega
theorem spendL_props {l : List Slot} {i n : Int} (hi : ¬ i = 0) (hb : bagOk l = true) (hn : 0 ≤ n) (hc : n ≤ countS l i) :
  bagOk (spendL l i n) = true ∧ (spendL l i n).length = l.length ∧ ∀ k,countS (spendL l i n) k + sel k i n = countS l k:=by
 have hb2:=bagOk_iff.1 hb
 have hsm:=bagOk_small hb
 unfold spendL
 refine ⟨bagOk_iff.2 fun s hs=>?_,by rw [List.length_reverse,spendR_len,List.length_reverse],fun k=>?_⟩
 ·rw [List.mem_reverse] at hs
  exact spendR_bad i _ n (fun x hx=>hb2 x (List.mem_reverse.1 hx)) s hs
 ·rw [countS_rev,← countS_rev k l]
  exact spendR_count hi _ n (fun s hs=>(hsm s (List.mem_reverse.1 hs)).1) hn (by rw [countS_rev];exact hc) k
theorem spendS_any (l : List Slot) (i n : Int) : (spendS l i n).1.length = l.length ∧ (bagOk l = true → bagOk (spendS l i n).1 = true):=by
 unfold spendS
 split
 ·exact ⟨rfl,id⟩
 ·rename_i h1
  split
  ·exact ⟨rfl,id⟩
  ·split
   ·exact ⟨rfl,id⟩
   ·have hb : bagOk l = true:=by simpa using h1
    refine ⟨by unfold spendL;rw [List.length_reverse,spendR_len,List.length_reverse],fun _=>bagOk_iff.2 fun s hs=>?_⟩
    unfold spendL at hs
    rw [List.mem_reverse] at hs
    exact spendR_bad i _ n (fun x hx=>bagOk_iff.1 hb x (List.mem_reverse.1 hx)) s hs
def takesR (wants : List Slot) (k : Int) : Int:=sumF (fun s : Slot=>sel k s.item s.n) wants
theorem recipe_mem {n : Int} {r : List Slot × Slot} (h : recipeN n = some r) : r ∈ recipesL:=by
 unfold recipeN at h
 split at h
 ·cases h
 ·exact List.mem_of_getElem? h
theorem recipe_ok {n : Int} {wants : List Slot} {makes : Slot} (h : recipeN n = some (wants,makes)) :
  (∀ s ∈ wants,1 ≤ s.item ∧ s.item ≤ 12 ∧ 1 ≤ s.n ∧ s.n ≤ 16) ∧ 1 ≤ makes.item ∧ makes.item ≤ 12 ∧ 1 ≤ makes.n ∧ makes.n ≤ 16 ∧ wants.length ≤ 2 ∧ ∀ a b,wants = [a,b] → ¬ a.item = b.item:=by
 have hm:=recipe_mem h
 simp only [recipesL,List.mem_cons,List.not_mem_nil,or_false,Prod.mk.injEq] at hm
 rcases hm with ⟨rfl,rfl⟩|⟨rfl,rfl⟩|⟨rfl,rfl⟩|⟨rfl,rfl⟩|⟨rfl,rfl⟩|⟨rfl,rfl⟩|⟨rfl,rfl⟩
 all_goals
  refine ⟨by decide,by decide,by decide,by decide,by decide,by decide,fun a b hab=>?_⟩
  first
   | (simp at hab;done)
   | (simp only [List.cons.injEq,and_true] at hab;obtain ⟨rfl,rfl⟩:=hab;decide)
theorem sel_diff {k i n : Int} (h : ¬ i = k) : sel k i n = 0:=by unfold sel;rw [if_neg (fun x=>h x.2)]
theorem spends_two {l wants : List Slot} (hb : bagOk l = true) (hw : ∀ s ∈ wants,1 ≤ s.item ∧ s.item ≤ 12 ∧ 1 ≤ s.n ∧ s.n ≤ 16) (h2 : wants.length ≤ 2) (hne : ∀ a b,wants = [a,b] → ¬ a.item = b.item)
  (hc : wants.any (fun s=>decide (countS l s.item < s.n)) = false) :
  bagOk (wants.foldl (fun b s=>(spendS b s.item s.n).1) l) = true ∧ (wants.foldl (fun b s=>(spendS b s.item s.n).1) l).length = l.length ∧
   ∀ k,countS (wants.foldl (fun b s=>(spendS b s.item s.n).1) l) k + takesR wants k = countS l k:=by
 rw [List.any_eq_false] at hc
 have hgo : ∀ (b : List Slot) (s : Slot),bagOk b = true → 1 ≤ s.n → s.n ≤ countS b s.item → (spendS b s.item s.n).1 = spendL b s.item s.n:=by
  intro b s h1 h2 h3
  unfold spendS
  rw [if_neg (by rw [h1];simp),if_neg (by omega),if_neg (by omega)]
 match wants,h2 with
 | [],_=>exact ⟨hb,rfl,fun k=>by simp [takesR,sumF]⟩
 | [a],_ =>
  have ha:=hw a (by simp)
  have hca:=hc a (by simp)
  simp only [decide_eq_true_eq] at hca
  obtain ⟨p1,p2,p3⟩:=spendL_props (i:=a.item) (n:=a.n) (by omega) hb (by omega) (by omega)
  simp only [List.foldl_cons,List.foldl_nil]
  rw [hgo l a hb (by omega) (by omega)]
  refine ⟨p1,p2,fun k=>?_⟩
  have:=p3 k
  simp only [takesR,sumF];omega
 | [a,b],_ =>
  have ha:=hw a (by simp)
  have hb':=hw b (by simp)
  have hca:=hc a (by simp)
  have hcb:=hc b (by simp)
  simp only [decide_eq_true_eq] at hca hcb
  have hab:=hne a b rfl
  obtain ⟨p1,p2,p3⟩:=spendL_props (i:=a.item) (n:=a.n) (by omega) hb (by omega) (by omega)
  simp only [List.foldl_cons,List.foldl_nil]
  rw [hgo l a hb (by omega) (by omega)]
  have e:=p3 b.item
  rw [sel_diff hab] at e
  obtain ⟨q1,q2,q3⟩:=spendL_props (i:=b.item) (n:=b.n) (by omega) p1 (by omega) (by omega)
  rw [hgo _ b p1 (by omega) (by omega)]
  refine ⟨q1,by omega,fun k=>?_⟩
  have:=p3 k
  have:=q3 k
  simp only [takesR,sumF];omega
theorem makeS_good {l : List Slot} {n : Int} (h : (makeS l n).2 = 0) : ∃ wants makes,recipeN n = some (wants,makes) ∧ bagOk l = true ∧ bagOk (makeS l n).1 = true ∧ (makeS l n).1.length = l.length ∧
  ∀ k,countS (makeS l n).1 k + takesR wants k = countS l k + sel k makes.item makes.n:=by
 unfold makeS at h ⊢
 split at h
 ·simp at h
 ·rename_i h1
  have hb : bagOk l = true:=by simpa using h1
  rw [if_neg h1]
  cases hr : recipeN n with
  | none=>rw [hr] at h;simp at h
  | some r =>
   obtain ⟨wants,makes⟩:=r
   rw [hr] at h
   dsimp only at h ⊢
   obtain ⟨r1,r2,r3,r4,r5,r6,r7⟩:=recipe_ok hr
   split at h
   ·simp at h
   ·rename_i h2
    rw [if_neg h2]
    split at h
    ·simp at h
    ·rename_i h3
     rw [if_neg h3]
     obtain ⟨p1,p2,p3⟩:=spends_two hb r1 r6 r7 (by simpa using h2)
     refine ⟨wants,makes,rfl,hb,putS_bagOk p1,by rw [putS_length];exact p2,fun k=>?_⟩
     have hl:=putS_left (l:=wants.foldl (fun b s=>(spendS b s.item s.n).1) l) (i:=makes.item) (n:=makes.n) (by omega)
     have hpc:=putS_count (l:=wants.foldl (fun b s=>(spendS b s.item s.n).1) l) (i:=makes.item) (n:=makes.n) (by omega) k
     rw [show (putS (wants.foldl (fun b s=>(spendS b s.item s.n).1) l) makes.item makes.n).2 = 0 by omega,sel_zero] at hpc
     have:=p3 k
     dsimp only
     omega
theorem makeS_any (l : List Slot) (n : Int) (hb : bagOk l = true) : (makeS l n).1.length = l.length ∧ bagOk (makeS l n).1 = true:=by
 by_cases h : (makeS l n).2 = 0
 ·obtain ⟨_,_,_,_,h1,h2,_⟩:=makeS_good h
  exact ⟨h2,h1⟩
 ·have e : (makeS l n).1 = l:=by
   unfold makeS at h ⊢
   split
   ·rfl
   ·rename_i h1
    rw [if_neg h1] at h
    cases hr : recipeN n with
    | none=>rfl
    | some r =>
     obtain ⟨wants,makes⟩:=r
     rw [hr] at h
     dsimp only at h ⊢
     split
     ·rfl
     ·rename_i h2
      rw [if_neg h2] at h
      split
      ·rfl
      ·rename_i h3
       rw [if_neg h3] at h
       exact absurd rfl h
  rw [e];exact ⟨rfl,hb⟩
open Go Go.RowKit Eng
theorem setC_xy (c : Chunk) (t i : Int) : (setC c t i).1.x = c.x ∧ (setC c t i).1.y = c.y:=by unfold setC;(repeat' split)<;>exact ⟨rfl,rfl⟩
theorem dropC_xy (c : Chunk) (t : Int) (s : Slot) : (dropC c t s).1.x = c.x ∧ (dropC c t s).1.y = c.y:=by unfold dropC;(repeat' split)<;>exact ⟨rfl,rfl⟩
theorem fillC_xy (c : Chunk) (t : Int) (l : List Slot) : (fillC c t l).1.x = c.x ∧ (fillC c t l).1.y = c.y:=by unfold fillC;(repeat' split)<;>exact ⟨rfl,rfl⟩
theorem liftC_xy (c : Chunk) (t : Int) : (liftC c t).1.x = c.x ∧ (liftC c t).1.y = c.y:=by unfold liftC;split<;>exact ⟨rfl,rfl⟩
theorem cnt_sel {k i n : Int} (h : 0 ≤ n) : cnt k ⟨i,n⟩ = sel k i n:=by unfold cnt sel;split<;>first|rfl|(dsimp only;omega)
structure Here (w : Wld) (p : Player) : Prop where
 rw : RW w
 get : getK pid w.players p.id = some p
theorem Here.sound {w : Wld} {p : Player} (h : Here w p) : soundB p = true ∧ withinW w.size p.x p.y = true:=h.rw.players p (getK_mem h.get).1
theorem Here.bag {w : Wld} {p : Player} (h : Here w p) : p.bag.length = 8 ∧ bagOk p.bag = true:=by
 obtain ⟨_,_,h3,h4,_⟩:=sound_parts h.sound.1
 exact ⟨by omega,h4⟩
theorem here_of {w : Wld} (hR : RW w) {id : Int} (h : (playerW w id).2 = true) : Here w (playerW w id).1 ∧ (playerW w id).1.id = id:=by
 have hr:=rightW_iff.2 hR
 have e : playerW w id = match getK pid w.players id with|some p=>(p,true)|none=>(zeroP,false):=by
  unfold playerW;rw [if_neg (by rw [hr];simp)];rfl
 cases hg : getK pid w.players id with
 | none=>rw [hg] at e;rw [e] at h;simp at h
 | some p =>
  rw [hg] at e
  rw [e]
  have hm:=getK_mem hg
  have hid : p.id = id:=hm.2
  exact ⟨⟨hR,by rw [hid];exact hg⟩,hid⟩
theorem at_place {w : Wld} {x y : Int} (hR : RW w) (h : withinW w.size x y = true) : atW w x y = (cellA (placeC w x y) (placeI x y),true):=atW_in hR ((within_iff hR).1 h)
theorem pick_law (cell : Int) (hc : 0 ≤ cell ∧ cell < 64) : ∀ (l : List Slot) (K : Chunk) (b : List Slot) (z : Bool),rightB K = true → bagOk b = true → (∀ s ∈ l,someB s = true) → K.heaps.length + l.length ≤ 32 →
  rightB (pickA cell l (K,b,z)).1 = true ∧ bagOk (pickA cell l (K,b,z)).2.1 = true ∧ (pickA cell l (K,b,z)).2.1.length = b.length ∧ (pickA cell l (K,b,z)).1.x = K.x ∧ (pickA cell l (K,b,z)).1.y = K.y ∧
  ∀ k,cc k (pickA cell l (K,b,z)).1 + countS (pickA cell l (K,b,z)).2.1 k = cc k K + countS b k + countS l k
 | [],K,b,z,hK,hb,_,_=>⟨hK,hb,rfl,rfl,rfl,fun k=>by simp [pickA,countS]⟩
 | s :: r,K,b,z,hK,hb,hl,h32=>by
  have hs:=someB_ok (hl s (by simp))
  have hsb:=hl s (by simp)
  simp only [someB,Bool.and_eq_true,decide_eq_true_eq] at hsb
  have hleft:=putS_left (l:=b) (i:=s.item) (n:=s.n) (by omega)
  have hpc:=putS_count (l:=b) (i:=s.item) (n:=s.n) (by omega)
  have hb2:=putS_bagOk (i:=s.item) (n:=s.n) hb
  have hbl:=putS_length b s.item s.n
  simp only [List.length_cons] at h32
  simp only [pickA]
  generalize putS b s.item s.n = P at *
  obtain ⟨P1,P2⟩:=P
  dsimp only at *
  have hsel : ∀ k,cnt k s = sel k s.item s.n:=fun k=>cnt_sel (i:=s.item) (by omega)
  by_cases h0 : 0 < P2
  ·rw [if_pos h0]
   have hxy:=dropC_xy K cell ⟨s.item,P2⟩
   have hd:=drop_right hK (t:=cell) (s:=⟨s.item,P2⟩) hc
   have hok : (dropC K cell ⟨s.item,P2⟩) = ({ K with heaps:=K.heaps ++ [⟨cell,⟨s.item,P2⟩⟩] },0):=by
    unfold dropC
    rw [if_neg (by rw [hK];simp),if_neg (by omega),if_neg (by unfold someB;rw [Bool.and_eq_false_iff,decide_eq_false_iff_not,decide_eq_false_iff_not];dsimp only;omega),if_neg (by omega)]
   have hcc:=cc_drop (c:=K) cell ⟨s.item,P2⟩ (by rw [hok])
   obtain ⟨i1,i2,i3,i4,i5,i6⟩:=pick_law cell hc r (dropC K cell ⟨s.item,P2⟩).1 P1 (z || decide (P2 < s.n)) hd hb2 (fun x hx=>hl x (by simp [hx])) (by rw [hok];simp;omega)
   refine ⟨i1,i2,by omega,by rw [i4,hxy.1],by rw [i5,hxy.2],fun k=>?_⟩
   rw [i6 k,hcc k,cnt_sel (by omega)]
   have:=hpc k
   simp only [countS,hsel]
   omega
  ·rw [if_neg h0]
   obtain ⟨i1,i2,i3,i4,i5,i6⟩:=pick_law cell hc r K P1 (z || decide (P2 < s.n)) hK hb2 (fun x hx=>hl x (by simp [hx])) (by omega)
   refine ⟨i1,i2,by omega,i4,i5,fun k=>?_⟩
   rw [i6 k]
   have:=hpc k
   rw [show P2 = 0 by omega,sel_zero] at this
   simp only [countS,hsel]
   omega
theorem kept_hits (t : Int) : ∀ l : List Heap,(keptH t l).length + (hitsH t l).length = l.length
 | []=>rfl
 | x :: r=>by
  have ih:=kept_hits t r
  unfold keptH hitsH at ih ⊢
  by_cases hx : x.cell = t
  ·rw [List.filter_cons_of_neg (by simp [miss,hx]),List.filter_cons_of_pos (by simp [hit,hx])]
   simp only [List.map_cons,List.length_cons];omega
  ·rw [List.filter_cons_of_pos (by simp [miss,hx]),List.filter_cons_of_neg (by simp [hit,hx])]
   simp only [List.length_cons];omega
theorem lift_heaps {c : Chunk} (h : rightB c = true) (t : Int) : (liftC c t).1.heaps.length + (liftC c t).2.length ≤ 32:=by
 have h1:=kept_hits t c.heaps
 have h2:=right_heaps h
 unfold liftC
 rw [if_pos h]
 dsimp only
 omega
open Go Go.RowKit Eng
inductive Eff (w : Wld) (p : Player) (c : Cmd) : Wld → Prop where
 | stay (p' : Player) (hi : p'.id = p.id) (hs : setOk w p') : Eff w p c (withP w (setL w.players p'))
 | keep (k : Chunk) (p' : Player) (x y : Int) (hi : p'.id = p.id) (hx : p'.x = p.x) (hy : p'.y = p.y) (hw : p'.wth = p.wth) (hk : rightB k = true) (hm : max k.x k.y < w.size) (h1 : k.x = x / 8) (h2 : k.y = y / 8) (hn : nearP p x y = true)
  (hs : setOk (withCs w (putL w.seed w.chunks k)) p') : Eff w p c (withP (withCs w (putL w.seed w.chunks k)) (setL w.players p'))
 | deal (p' q q' : Player) (hq : Here w q) (hi : p'.id = p.id) (hj : q'.id = q.id) (hne : ¬ p.id = q.id) (hx : p'.x = p.x) (hy : p'.y = p.y) (hqx : q'.x = q.x) (hqy : q'.y = q.y)
  (hw : q.id = p.wth ∨ (c.dol = 11 ∧ q.id = c.a)) (hkq : ¬ q.wth = p.id → q' = q) (hs : setOk w q') (ht : setOk (withP w (setL w.players q')) p') : Eff w p c (withP w (setL (setL w.players q') p'))
theorem offer_xy (p q : Player) (a n : Int) : (offerP p q a n).1.x = p.x ∧ (offerP p q a n).1.y = p.y ∧ (offerP p q a n).2.1.x = q.x ∧ (offerP p q a n).2.1.y = q.y:=by
 unfold offerP;(repeat' split)<;>exact ⟨rfl,rfl,rfl,rfl⟩
theorem agree_xy (p q : Player) : (agreeP p q).1.x = p.x ∧ (agreeP p q).1.y = p.y ∧ (agreeP p q).2.1.x = q.x ∧ (agreeP p q).2.1.y = q.y:=by
 unfold agreeP;(repeat' split)<;>exact ⟨rfl,rfl,rfl,rfl⟩
theorem cancel_xy (p q : Player) : (cancelP p q).1.x = p.x ∧ (cancelP p q).1.y = p.y ∧ (cancelP p q).2.1.x = q.x ∧ (cancelP p q).2.1.y = q.y:=by
 unfold cancelP;(repeat' split)<;>exact ⟨rfl,rfl,rfl,rfl⟩
open Go Go.RowKit Eng
theorem key_xy {a b x y : Int} (ha : 0 ≤ a ∧ a < 16) (hx : 0 ≤ x ∧ x < 16) (h : 16 * y + x = 16 * b + a) : x = a ∧ y = b:=by omega
theorem Eff.size {w n : Wld} {p : Player} {c : Cmd} (h : Eff w p c n) : n.size = w.size ∧ n.seed = w.seed ∧ n.tick = w.tick:=by
 cases h<;>exact ⟨rfl,rfl,rfl⟩
def nearS (p : Player) (x y : Int) : Bool:=decide (8 * x ≤ p.x + 3) && (decide (p.x - 3 < 8 * x + 8) && (decide (8 * y ≤ p.y + 3) && decide (p.y - 3 < 8 * y + 8)))
theorem Eff.chunk {w n : Wld} {p : Player} {c : Cmd} (h : Eff w p c n) (hR : RW w) (hn : RW n) {x y : Int} (hx : 0 ≤ x ∧ x < w.size) (hy : 0 ≤ y ∧ y < w.size) (hf : nearS p x y = false) : (chunkW n x y).1 = (chunkW w x y).1:=by
 have hs:=hR.size
 obtain ⟨e1,e2,_⟩:=h.size
 rw [(chunkW_in hR hx hy).1,(chunkW_in hn (by rw [e1];exact hx) (by rw [e1];exact hy)).1,e2]
 cases h with
 | stay p' hi hs=>rfl
 | deal p' q q'=>rfl
 | keep k p' X Y hi hX hY hw hk hm h1 h2 hN hs =>
  show (match getK keyC (putL w.seed w.chunks k) (keyC (atC x y)) with|some c=>c|none=>genC w.seed x y,true).1 = _
  have hne : ¬ keyC (atC x y) = keyC k:=by
   intro he
   have hkp:=rightB_pos hk
   have he' : 16 * y + x = 16 * k.y + k.x:=he
   obtain ⟨rfl,rfl⟩:=key_xy (a:=k.x) (b:=k.y) (by omega) (by omega) he'
   unfold nearS at hf
   unfold nearP at hN
   simp only [Bool.and_eq_true,Bool.and_eq_false_iff,decide_eq_true_eq,decide_eq_false_iff_not] at hf hN
   omega
  rw [getK_putL hR.rc,if_neg hne]
  rfl
theorem playerW_get {w : Wld} (hR : RW w) (id : Int) : playerW w id = match getK pid w.players id with|some p=>(p,true)|none=>(zeroP,false):=by
 unfold playerW;rw [if_neg (by rw [rightW_iff.2 hR];simp)];rfl
theorem Eff.player {w n : Wld} {p q : Player} {c : Cmd} (h : Eff w p c n) (hR : RW w) (hn : RW n) (hq : q ∈ w.players) :
  ∃ r,playerW n q.id = (r,true) ∧ (¬ q.id = p.id → (r.x = q.x ∧ r.y = q.y) ∧ (¬ q.wth = p.id → r = q) ∧ (¬ q.id = p.wth → ¬ (c.dol = 11 ∧ c.a = q.id) → r = q)):=by
 have hg:=getK_of_mem (key:=pid) hR.rp hq
 rw [playerW_get hn]
 cases h with
 | stay p' hi hs =>
  rw [show (withP w (setL w.players p')).players = setL w.players p' from rfl,getK_setL hR.rp]
  by_cases he : q.id = p'.id
  ·rw [if_pos he];exact ⟨p',rfl,fun hne=>absurd (he.trans hi) hne⟩
  ·rw [if_neg he,show getK pid w.players q.id = some q from hg];exact ⟨q,rfl,fun _=>⟨⟨rfl,rfl⟩,fun _=>rfl,fun _ _=>rfl⟩⟩
 | keep k p' X Y hi hX hY hw hk hm h1 h2 hN hs =>
  rw [show (withP (withCs w (putL w.seed w.chunks k)) (setL w.players p')).players = setL w.players p' from rfl,getK_setL hR.rp]
  by_cases he : q.id = p'.id
  ·rw [if_pos he];exact ⟨p',rfl,fun hne=>absurd (he.trans hi) hne⟩
  ·rw [if_neg he,show getK pid w.players q.id = some q from hg];exact ⟨q,rfl,fun _=>⟨⟨rfl,rfl⟩,fun _=>rfl,fun _ _=>rfl⟩⟩
 | deal p' z z' hz hi hj hne hx hy hzx hzy hw hkq hs ht =>
  rw [show (withP w (setL (setL w.players z') p')).players = setL (setL w.players z') p' from rfl,getK_setL (risesK_setL hR.rp),getK_setL hR.rp]
  by_cases he : q.id = p'.id
  ·rw [if_pos he];exact ⟨p',rfl,fun hne=>absurd (he.trans hi) hne⟩
  ·rw [if_neg he]
   by_cases hf : q.id = z'.id
   ·rw [if_pos hf]
    have hqz : q = z:=by
     have h2:=hz.get
     rw [← hj,← hf,show getK pid w.players q.id = some q from hg] at h2
     exact Option.some.inj h2
    subst hqz
    refine ⟨z',rfl,fun _=>⟨⟨hzx,hzy⟩,hkq,fun h3 h4=>?_⟩⟩
    rcases hw with hw|hw
    ·exact absurd hw h3
    ·exact absurd ⟨hw.1,hw.2.symm⟩ h4
   ·rw [if_neg hf,show getK pid w.players q.id = some q from hg];exact ⟨q,rfl,fun _=>⟨⟨rfl,rfl⟩,fun _=>rfl,fun _ _=>rfl⟩⟩
theorem apply_cases {w : Wld} (hR : RW w) (id : Int) (c : Cmd) :
  (¬ (applyW w id c).2 = 0 ∧ (applyW w id c).1 = w) ∨
  ((playerW w id).2 = false ∧ c.dol = 1 ∧ rightD c = true ∧ ∃ p',p'.id = id ∧ p' = ⟨id,spawnX w.size id,0,newB8,-1,[],false⟩ ∧ setOk w p' ∧ applyW w id c = (withP w (setL w.players p'),0)) ∨
  ((playerW w id).2 = true ∧ ¬ c.dol = 1 ∧ rightD c = true ∧ Here w (playerW w id).1 ∧ (playerW w id).1.id = id ∧ (actA w (playerW w id).1 c).2 = 0 ∧ applyW w id c = ((actA w (playerW w id).1 c).1,0)):=by
 by_cases he : (applyW w id c).2 = 0
 ·right
  have hr:=rightW_iff.2 hR
  unfold applyW at he ⊢
  rw [if_neg (by rw [hr];simp)] at he ⊢
  split at he
  ·simp at he
  ·rename_i h1
   rw [if_neg h1]
   have h1' : rightD c = true:=by simpa using h1
   split at he
   ·simp at he
   ·rename_i h2
    rw [if_neg h2]
    split at he
    ·rename_i h3
     rw [if_pos h3]
     left
     obtain ⟨s1,s2⟩:=set_good he
     refine ⟨?_,h3,h1',_,rfl,rfl,s1,?_⟩
     ·rw [decide_eq_true h3] at h2;simpa using h2
     ·rw [set_eq s1]
    ·rename_i h3
     rw [if_neg h3]
     split at he
     ·rename_i h4;exact absurd he h4
     ·rename_i h4
      right
      have hp : (playerW w id).2 = true:=by rw [decide_eq_false h3] at h2;simpa using h2
      obtain ⟨a,b⟩:=here_of hR hp
      exact ⟨hp,h3,h1',a,b,Decidable.not_not.1 h4,by rw [if_neg h4]⟩
 ·left;exact ⟨he,apply_err he⟩
end Go.Proofs.YtkojlembanldcaaGreat
