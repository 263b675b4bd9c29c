/- The rules as Lean functions, and their plain laws. -/
import Derived.Test.YtkojlembanldcaaGreatGg
import Derived.Test.YtkojlembanldcaaGreatGh
import Derived.Test.YtkojlembanldcaaGreatGc
set_option linter.unusedSimpArgs false
set_option linter.unusedVariables false
set_option maxRecDepth 100000
set_option maxHeartbeats 16000000
namespace Go.Proofs.YtkojlembanldcaaGreat
open Go Go.RowKit Eng
def bm (lo hi n : Int) : Bool:=decide (lo ≤ n) && decide (n ≤ hi)
def dB (n : Int) : Bool:=decide (n = 0)
def bG (c : Cmd) : Bool:=
 if c.dol = 1 ∨ c.dol = 5 ∨ c.dol = 10 ∨ c.dol = 12 ∨ c.dol = 13 then dB c.a && (dB c.b && (dB c.c && dB c.n))
 else if c.dol = 2 then bm (-1) 1 c.a && (bm (-1) 1 c.b && (dB c.c && dB c.n))
 else if c.dol = 3 then bm 0 127 c.a && (bm 0 127 c.b && (dB c.c && dB c.n))
 else if c.dol = 4 then bm 0 127 c.a && (bm 0 127 c.b && (bm 0 7 c.c && dB c.n))
 else if c.dol = 6 then dB c.a && (dB c.b && (bm 0 7 c.c && bm 1 1000 c.n))
 else if c.dol = 7 ∨ c.dol = 8 then bm 0 127 c.a && (bm 0 127 c.b && (bm 0 7 c.c && bm 1 1000 c.n))
 else if c.dol = 9 then dB c.a && (dB c.b && (bm 0 1000 c.c && dB c.n))
 else if c.dol = 11 then bm 0 1073741824 c.a && (dB c.b && (bm 0 7 c.c && bm 1 1000 c.n))
 else false
def en (i : Int) : List aa → Int → List aa
 | [],_=>[]
 | s :: r,n=>if n ≤ 0 then s :: r else if s.item = i then d7 s (min s.n n) :: en i r (n - min s.n n) else s :: en i r n
def gX (l : List aa) (i n : Int) : List aa:=(en i l.reverse n).reverse
def a_ (l : List aa) (i n : Int) : List aa × Int:=
 if an l = false then (l,103) else if n < 1 then (l,111) else if ac l i < n then (l,105) else (gX l i n,0)
def sQ : List (List aa × aa):=[([⟨3,1⟩],⟨5,4⟩),([⟨5,2⟩],⟨6,4⟩),([⟨5,8⟩],⟨9,1⟩),([⟨6,1⟩,⟨7,1⟩],⟨10,4⟩),([⟨7,1⟩,⟨3,1⟩],⟨8,1⟩),([⟨6,2⟩,⟨8,3⟩],⟨12,1⟩),([⟨2,4⟩,⟨1,1⟩],⟨7,1⟩)]
def eW (n : Int) : Option (List aa × aa):=if n < 0 then none else sQ[n.toNat]?
def cF (l : List aa) (n : Int) : List aa × Int:=
 if an l = false then (l,103) else match eW n with
  | none=>(l,112)
  | some (wants,makes)=>if wants.any (fun s=>decide (ac l s.item < s.n)) = true then (l,105)
   else if 0 < (bk (wants.foldl (fun b s=>(a_ b s.item s.n).1) l) makes.item makes.n).2 then (l,104)
   else ((bk (wants.foldl (fun b s=>(a_ b s.item s.n).1) l) makes.item makes.n).1,0)
def d_ (p : Player) (x y : Int) : Bool:=decide (max (x - p.x) (-(x - p.x)) ≤ 3) && decide (max (y - p.y) (-(y - p.y)) ≤ 3)
def aA (w : Wld) (x y : Int) : Chunk:=(ba w (x / 8) (y / 8)).1
def aJ (x y : Int) : Int:=y % 8 * 8 + x % 8
def dF (w : Wld) (p : Player) (x y : Int) : Int:=if av w.size x y = false then 102 else if d_ p x y = false then 106 else 0
def cV (w : Wld) (k : Chunk) (p : Player) : Wld × Int:=if ¬ (br w k).2 = 0 then (w,(br w k).2) else am (br w k).1 p
def fx (w : Wld) (p : Player) (c : Cmd) : Wld × Int:=
 if av w.size (p.x + c.a) (p.y + c.b) = false then (w,102) else if ¬ (atW w (p.x + c.a) (p.y + c.b)).1 = 0 then (w,107)
 else am w { p with x:=p.x + c.a,y:=p.y + c.b }
abbrev bQ (k : Chunk) (i : Int) : Int:=elt .u8 k.cells i.toNat
def dH (w : Wld) (p : Player) (c : Cmd) : Wld × Int:=
 if ¬ dF w p c.a c.b = 0 then (w,dF w p c.a c.b) else
 if bQ (aA w c.a c.b) (aJ c.a c.b) = 0 then (w,107) else
 if ¬ (cC (aA w c.a c.b) (aJ c.a c.b) 0).2 = 0 then (w,(cC (aA w c.a c.b) (aJ c.a c.b) 0).2) else
 if 0 < (bk p.bag (bL (bQ (aA w c.a c.b) (aJ c.a c.b))) 1).2 then (w,104) else
 cV w (cC (aA w c.a c.b) (aJ c.a c.b) 0).1 { p with bag:=(bk p.bag (bL (bQ (aA w c.a c.b) (aJ c.a c.b))) 1).1 }
def dq (c : Cmd) (q : Player) : Bool:=decide (q.x = c.a) && decide (q.y = c.b)
def dI (w : Wld) (p : Player) (c : Cmd) : Wld × Int:=
 if ¬ dF w p c.a c.b = 0 then (w,dF w p c.a c.b) else
 if ¬ (aj p.bag c.c 1).2.2 = 0 then (w,(aj p.bag c.c 1).2.2) else
 if cG (aj p.bag c.c 1).2.1.item = false then (w,100) else
 if ¬ bQ (aA w c.a c.b) (aJ c.a c.b) = 0 ∨ w.players.any (dq c) = true then (w,107) else
 if ¬ (cC (aA w c.a c.b) (aJ c.a c.b) (aj p.bag c.c 1).2.1.item).2 = 0 then (w,(cC (aA w c.a c.b) (aJ c.a c.b) (aj p.bag c.c 1).2.1.item).2) else
 cV w (cC (aA w c.a c.b) (aJ c.a c.b) (aj p.bag c.c 1).2.1.item).1 { p with bag:=(aj p.bag c.c 1).1 }
def fy (w : Wld) (p : Player) (c : Cmd) : Wld × Int:=
 if ¬ (aj p.bag c.c c.n).2.2 = 0 then (w,(aj p.bag c.c c.n).2.2) else
 if ¬ (b9 (aA w p.x p.y) (aJ p.x p.y) (aj p.bag c.c c.n).2.1).2 = 0 then (w,(b9 (aA w p.x p.y) (aJ p.x p.y) (aj p.bag c.c c.n).2.1).2) else
 cV w (b9 (aA w p.x p.y) (aJ p.x p.y) (aj p.bag c.c c.n).2.1).1 { p with bag:=(aj p.bag c.c c.n).1 }
def bD (cell : Int) : List aa → Chunk × List aa × Bool → Chunk × List aa × Bool
 | [],a=>a
 | s :: r,(k,b,z)=>bD cell r (if 0 < (bk b s.item s.n).2 then (b9 k cell ⟨s.item,(bk b s.item s.n).2⟩).1 else k,(bk b s.item s.n).1,z || decide ((bk b s.item s.n).2 < s.n))
def eC (w : Wld) (p : Player) : Wld × Int:=
 let k:=cE (aA w p.x p.y) (aJ p.x p.y)
 if k.2.length = 0 then (w,105) else
 let r:=bD (aJ p.x p.y) k.2 (k.1,p.bag,false)
 if r.2.2 = false then (w,104) else cV w r.1 { p with bag:=r.2.1 }
def cA (fr to_ : List aa) (a n : Int) : List aa × List aa × Int:=
 if ¬ (aj fr a n).2.2 = 0 then ([],[],(aj fr a n).2.2) else
 if 0 < (bk to_ (aj fr a n).2.1.item (aj fr a n).2.1.n).2 then ([],[],104) else
 ((aj fr a n).1,(bk to_ (aj fr a n).2.1.item (aj fr a n).2.1.n).1,0)
def ee (w : Wld) (p : Player) (c : Cmd) : Wld × Int:=
 if ¬ dF w p c.a c.b = 0 then (w,dF w p c.a c.b) else
 if (c8 (aA w c.a c.b) (aJ c.a c.b)).2 = false then (w,107) else
 let m:=if c.dol = 7 then cA p.bag (c8 (aA w c.a c.b) (aJ c.a c.b)).1 c.c c.n else cA (c8 (aA w c.a c.b) (aJ c.a c.b)).1 p.bag c.c c.n
 if ¬ m.2.2 = 0 then (w,m.2.2) else
 let b:=if c.dol = 7 then m.2.1 else m.1
 let q:=if c.dol = 7 then m.1 else m.2.1
 if ¬ (ct (aA w c.a c.b) (aJ c.a c.b) b).2 = 0 then (w,(ct (aA w c.a c.b) (aJ c.a c.b) b).2) else
 cV w (ct (aA w c.a c.b) (aJ c.a c.b) b).1 { p with bag:=q }
def dJ (w : Wld) (p : Player) (c : Cmd) : Wld × Int:=if ¬ (cF p.bag c.c).2 = 0 then (w,(cF p.bag c.c).2) else am w { p with bag:=(cF p.bag c.c).1 }
def gI (w : Wld) (p : Player) : Wld × Int:=if ¬ (a_ p.bag 11 1).2 = 0 then (w,(a_ p.bag 11 1).2) else am w { p with bag:=(a_ p.bag 11 1).1 }
def cz (w : Wld) (p : Player) (c : Cmd) : Wld × Int:=
 let wth:=if c.dol = 11 then c.a else p.wth
 if (ag w wth).2 = false then (w,if c.dol = 11 then 110 else 108) else
 let q:=(ag w wth).1
 if ¬ c.dol = 13 ∧ d_ p q.x q.y = false then (w,106) else
 let r : Player × Player × Int:=if c.dol = 11 then cB p q c.c c.n else if c.dol = 12 then ((bo p q).1,(bo p q).2.1,(bo p q).2.2.2) else b6 p q
 if ¬ r.2.2 = 0 then (w,r.2.2) else
 if ¬ (am w r.2.1).2 = 0 then (w,(am w r.2.1).2) else am (am w r.2.1).1 r.1
def aZ (w : Wld) (p : Player) (c : Cmd) : Wld × Int:=
 if c.dol = 2 then fx w p c else if c.dol = 3 then dH w p c else if c.dol = 4 then dI w p c else if c.dol = 5 then eC w p else if c.dol = 6 then fy w p c
 else if c.dol = 7 ∨ c.dol = 8 then ee w p c else if c.dol = 9 then dJ w p c else if c.dol = 10 then gI w p else cz w p c
def aG (w : Wld) (id : Int) (c : Cmd) : Wld × Int:=
 if aO w = false then (w,113) else if bG c = false then (w,109)
 else if (ag w id).2 = decide (c.dol = 1) then (w,110)
 else if c.dol = 1 then am w ⟨id,cL w.size id,0,ce,-1,[],false⟩
 else if ¬ (aZ w (ag w id).1 c).2 = 0 then (w,(aZ w (ag w id).1 c).2) else ((aZ w (ag w id).1 c).1,0)
open Go Go.RowKit Eng
theorem mo {w : Wld} {p : Player} (h : (am w p).2 = 0) : fD w p ∧ (am w p).1 = cR w (ck w.players p):=by
 have hk : fD w p:=by
  rcases nL w p with h1|⟨_,h1⟩
  ·exact h1.1
  ·rcases h1 with h1|h1|h1<;>(have:=h1.1;omega)
 exact ⟨hk,by rw [iv hk]⟩
theorem HA {w : Wld} {c : Chunk} (h : (br w c).2 = 0) : RW w ∧ ai c = true ∧ max c.x c.y < w.size ∧ (br w c).1 = c_ w (d5 w.seed w.chunks c):=by
 rcases vl w c with h1|⟨_,h1⟩
 ·exact ⟨h1.1,h1.2.1,h1.2.2.1,by rw [nK h1.1 h1.2.1 h1.2.2.1]⟩
 ·rcases h1 with h1|h1<;>(have:=h1.1;omega)
theorem v8 {w : Wld} {k : Chunk} {p : Player} (h : (cV w k p).2 = 0) : RW w ∧ ai k = true ∧ max k.x k.y < w.size ∧ fD (c_ w (d5 w.seed w.chunks k)) p ∧
  (cV w k p).1 = cR (c_ w (d5 w.seed w.chunks k)) (ck w.players p):=by
 unfold cV at h ⊢
 by_cases h1 : (br w k).2 = 0
 ·rw [if_neg (not_not_intro h1)] at h ⊢
  obtain ⟨a1,a2,a3,a4⟩:=HA h1
  obtain ⟨b1,b2⟩:=mo h
  rw [a4] at b1 b2 ⊢
  exact ⟨a1,a2,a3,b1,b2⟩
 ·rw [if_pos h1] at h;exact absurd h h1
theorem Jn {w : Wld} {k : Chunk} {p : Player} (h : (cV w k p).2 = 0) : RW (cV w k p).1:=by
 obtain ⟨_,_,_,h4,h5⟩:=v8 h
 rw [h5];exact qd h4
theorem Fs {w : Wld} {p : Player} (h : (am w p).2 = 0) : RW (am w p).1:=by
 obtain ⟨h1,h2⟩:=mo h
 rw [h2];exact qd h1
def fN (r : Wld × Int) : Prop:=r.2 = 0 → RW r.1
theorem bW {w : Wld} {e : Int} (h : ¬ e = 0) : fN (w,e):=fun h2=>absurd h2 h
theorem oB (w : Wld) (p : Player) : fN (am w p):=Fs
theorem ku (w : Wld) (k : Chunk) (p : Player) : fN (cV w k p):=Jn
theorem bp {c : Prop} [Decidable c] {a b : Wld × Int} (h1 : c → fN a) (h2 : ¬ c → fN b) : fN (if c then a else b):=by
 by_cases h : c
 ·rw [if_pos h];exact h1 h
 ·rw [if_neg h];exact h2 h
theorem Dr (w : Wld) (p : Player) (c : Cmd) : fN (fx w p c):=by
 unfold fx
 exact bp (fun h=>bW (by decide)) (fun _=>bp (fun h=>bW (by decide)) (fun _=>oB _ _))
theorem AG (w : Wld) (p : Player) (c : Cmd) : fN (dH w p c):=by
 unfold dH
 exact bp (fun h=>bW (h)) (fun _=>bp (fun h=>bW (by decide)) (fun _=>bp (fun h=>bW (h)) (fun _=>bp (fun h=>bW (by decide)) (fun _=>ku _ _ _))))
theorem AH (w : Wld) (p : Player) (c : Cmd) : fN (dI w p c):=by
 unfold dI
 exact bp (fun h=>bW (h)) (fun _=>bp (fun h=>bW (h)) (fun _=>bp (fun h=>bW (by decide)) (fun _=>bp (fun h=>bW (by decide)) (fun _=>bp (fun h=>bW (h)) (fun _=>ku _ _ _)))))
theorem Ds (w : Wld) (p : Player) (c : Cmd) : fN (fy w p c):=by
 unfold fy
 exact bp (fun h=>bW (h)) (fun _=>bp (fun h=>bW (h)) (fun _=>ku _ _ _))
theorem Dt (w : Wld) (p : Player) : fN (eC w p):=by
 unfold eC
 exact bp (fun h=>bW (by decide)) (fun _=>bp (fun h=>bW (by decide)) (fun _=>ku _ _ _))
theorem AJ (w : Wld) (p : Player) (c : Cmd) : fN (ee w p c):=by
 unfold ee
 exact bp (fun h=>bW (h)) (fun _=>bp (fun h=>bW (by decide)) (fun _=>bp (fun h=>bW (h)) (fun _=>bp (fun h=>bW (h)) (fun _=>ku _ _ _))))
theorem AK (w : Wld) (p : Player) (c : Cmd) : fN (dJ w p c):=by
 unfold dJ
 exact bp (fun h=>bW (h)) (fun _=>oB _ _)
theorem Ft (w : Wld) (p : Player) : fN (gI w p):=by
 unfold gI
 exact bp (fun h=>bW (h)) (fun _=>oB _ _)
theorem Du (w : Wld) (p : Player) (c : Cmd) : fN (cz w p c):=by
 unfold cz
 exact bp (fun h=>bW (by split<;>decide)) (fun _=>bp (fun h=>bW (by decide)) (fun _=>bp (fun h=>bW (h)) (fun _=>bp (fun h=>bW (h)) (fun _=>oB _ _))))
theorem HB (w : Wld) (p : Player) (c : Cmd) : fN (aZ w p c):=by
 unfold aZ
 exact bp (fun _=>Dr _ _ _) fun _=>bp (fun _=>AG _ _ _) fun _=>bp (fun _=>AH _ _ _) fun _=>bp (fun _=>Dt _ _) fun _=>bp (fun _=>Ds _ _ _) fun _ =>
  bp (fun _=>AJ _ _ _) fun _=>bp (fun _=>AK _ _ _) fun _=>bp (fun _=>Ft _ _) fun _=>Du _ _ _
theorem KD {w : Wld} {p : Player} {c : Cmd} (h : (aZ w p c).2 = 0) : RW (aZ w p c).1:=HB w p c h
theorem HC {w : Wld} {id : Int} {c : Cmd} (hR : aO w = true) : RW (aG w id c).1:=by
 have hRW:=aK.1 hR
 unfold aG
 rw [if_neg (by rw [hR];simp)]
 split
 ·exact hRW
 ·split
  ·exact hRW
  ·split
   ·by_cases h : (am w ⟨id,cL w.size id,0,ce,-1,[],false⟩).2 = 0
    ·exact Fs h
    ·rcases nL w ⟨id,cL w.size id,0,ce,-1,[],false⟩ with h1|h1
     ·exact absurd h1.2 h
     ·rw [h1.1];exact hRW
   ·split
    ·exact hRW
    ·rename_i h;exact KD (Decidable.not_not.1 h)
theorem Fu {w : Wld} {id : Int} {c : Cmd} (h : ¬ (aG w id c).2 = 0) : (aG w id c).1 = w:=by
 unfold aG at h ⊢
 repeat' split
 all_goals first|rfl|skip
 ·rename_i h1 h2 h3 h4
  rw [if_neg h1,if_neg h2,if_neg h3,if_pos h4] at h
  rcases nL w ⟨id,cL w.size id,0,ce,-1,[],false⟩ with h1|h1
  ·exact absurd h1.2 h
  ·exact h1.1
 ·rename_i h1 h2 h3 h4 h5
  rw [if_neg h1,if_neg h2,if_neg h3,if_neg h4,if_neg h5] at h
  exact absurd rfl h
open Go Go.RowKit Eng
def dc (C : List Int) (s : aa) : List Int:=C.set s.item.toNat (elt .i64 C s.item.toNat + s.n)
def inN (b n : Int) : Prop:=0 ≤ n ∧ n ≤ b
structure eO (C : List Int) (b : Int) : Prop where
 len : C.length = 13
 bd : ∀ i,i < 13 → inN b (elt .i64 C i)
def gY (s : aa) : Prop:=0 ≤ s.item ∧ s.item ≤ 12 ∧ 0 ≤ s.n ∧ s.n ≤ 16
theorem oC {C : List Int} {s : aa} (hl : C.length = 13) (hs : gY s) (i : Nat) : elt .i64 (dc C s) i = if i = s.item.toNat then elt .i64 C i + s.n else elt .i64 C i:=by
 unfold dc
 obtain ⟨h0,h1,_,_⟩:=hs
 by_cases h : i = s.item.toNat
 ·rw [if_pos h];subst h
  unfold elt
  rw [List.getElem?_set_self (by omega)];rfl
 ·rw [if_neg h]
  unfold elt
  rw [List.getElem?_set_ne (fun e=>h e.symm)]
theorem eO.mono {C : List Int} {b c : Int} (h : eO C b) (hb : b ≤ c) : eO C c:=⟨h.len,fun i hi=>by have:=h.bd i hi;unfold inN at *;omega⟩
theorem eO.add {C : List Int} {b : Int} {s : aa} (h : eO C b) (hs : gY s) : eO (dc C s) (b + 16):=by
 refine ⟨by unfold dc;rw [List.length_set];exact h.len,fun i hi=>?_⟩
 rw [oC h.len hs]
 have:=h.bd i hi
 obtain ⟨_,_,h2,h3⟩:=hs
 unfold inN at *
 split<;>omega
theorem eO.foldl {l : List aa} : ∀ {C : List Int} {b : Int},eO C b → (∀ s ∈ l,gY s) → eO (l.foldl dc C) (b + 16 * l.length):=by
 induction l with
 | nil=>intro C b h _;simpa using h
 | cons a r ih =>
  intro C b h hs
  have:=ih (h.add (hs a (by simp))) fun s hm=>hs s (List.mem_cons_of_mem _ hm)
  rw [List.foldl_cons]
  refine this.mono ?_
  rw [List.length_cons];omega
abbrev jC (a : Nat) : AV:=.clo (.func 115) [] [.ptr a 0]
abbrev nk (a b : Nat) (C : List (El .i64)) : Mem:=[(a,.box [.own .i64 b 0 13 none]),(b,.row .i64 C)]
theorem v_ (C : List (El .i64)) (s : aa) (b : Int) (hC : eO C b) (hs : gY s) (hb : b ≤ 1152921504606846976) : Ev1 Tryz.prog 115 [.agg [.lit (.int .u8 s.item),.lit (.int .i64 s.n)],.ptr 0 0] (nk 0 1 C) (.tup []) (nk 0 1 (dc C s)):=by
 obtain ⟨h0,h1,h2,h3⟩:=hs
 have hl:=hC.len
 have hbd:=hC.bd s.item.toNat (by omega)
 have hbd2 : inN b (elt .i64 C (s.item.toNat + 0)):=hbd
 have hbd3 : inN b (elt .i64 C (0 + s.item.toNat)):=by rw [Nat.zero_add];exact hbd
 unfold inN at *
 refine eF Tryz.func115 10 ?_
 conv=>whnf
 repeat' (first|exact trivial|((first|(refine ⟨fun hb=>?_,fun hb=>?_⟩<;>(try simp only [nrm] at hb)<;>try exact kZ hb)|refine kV ?_)<;>(conv=>whnf))|refine kY ?_ ?_)
 all_goals first|rfl|omega|exact List.take_of_length_le (by rw [List.length_set];omega)|trace_state
theorem oD (l : List (El .slot)) (C : List (El .i64)) (b : Int) (hC : eO C b) (hs : ∀ s ∈ l,gY s) (hb0 : 0 ≤ b) (hb : b + 16 * l.length ≤ 1152921504606846976) : Ev1 Tryz.prog 185 [.vec .slot l,.ptr 2 0] ((2,.box [jC 0]) :: nk 0 1 C) (.tup []) ((2,.box [jC 0]) :: nk 0 1 (l.foldl dc C)):=by
 refine eF Tryz.func185 13 ?_
 conv=>whnf
 refine ap.loopS ah (σ:=Nat) [1,5,6,7] (fun k=>[.ptr 2 0,.vec .slot l,i64 l.length,i64 k]) (fun k=>(2,.box [jC 0]) :: nk 0 1 ((l.take k).foldl dc C)) (fun k=>k ≤ l.length) (fun k=>l.length - k) 0 (by omega) ?_ ?_
 ·have hl:=hC.len
  conv=>whnf
  repeat' (first|exact trivial|((first|(refine ⟨fun hb=>?_,fun hb=>?_⟩<;>(try simp only [nrm] at hb)<;>try exact kZ hb)|refine kV ?_)<;>(conv=>whnf))|refine kY ?_ ?_)
  all_goals first|rfl|omega|exact List.take_of_length_le (by omega)|trace_state
 ·intro k hk
  by_cases hlt : k < l.length
  ·have hok : eO ((l.take k).foldl dc C) (b + 16 * (l.take k).length):=hC.foldl fun s hm=>hs s (List.mem_of_mem_take hm)
   have hlk : (l.take k).length = k:=by rw [List.length_take];omega
   have hn : (l.take (k + 1)).foldl dc C = dc ((l.take k).foldl dc C) (elt .slot l k):=by
    rw [List.take_add_one,ar .slot l k hlt,Option.toList_some,List.foldl_append];rfl
   have hcl:=v_ ((l.take k).foldl dc C) (elt .slot l k) _ hok (hs _ (ao (t:=.slot) hlt)) (by omega)
   have hl:=hok.len
   have hl2:=(hok.add (hs _ (ao (t:=.slot) hlt))).len
   rw [← hn] at hcl hl2
   generalize (l.take k).foldl dc C = D at *
   generalize hE : (l.take (k + 1)).foldl dc C = E at *
   conv=>whnf
   repeat' (first|exact trivial|((first|refine kL ?_|(refine ⟨fun hb=>?_,fun hb=>?_⟩<;>(try simp only [nrm] at hb)<;>try exact kZ hb)|refine kE hcl [(0,0),(1,1)] rfl ?_|refine kF hcl [(0,0),(1,1)] rfl ?_|refine kV ?_)<;>(conv=>whnf))|refine kY ?_ ?_)
   refine .to (k + 1) (by omega) (by omega) ?_
   conv=>whnf
   repeat' (first|exact trivial|((first|(refine ⟨fun hb=>?_,fun hb=>?_⟩<;>(try simp only [nrm] at hb)<;>try exact kZ hb)|refine kV ?_)<;>(conv=>whnf))|refine kY ?_ ?_)
   all_goals first|rfl|omega|exact List.take_of_length_le (by omega)|(rw [hE];exact List.take_of_length_le (by omega))|(rw [hE];omega)|trace_state
  ·obtain rfl : k = l.length:=by omega
   conv=>whnf
   repeat' (first|exact trivial|((first|(refine ⟨fun hb=>?_,fun hb=>?_⟩<;>(try simp only [nrm] at hb)<;>try exact kZ hb)|refine kV ?_)<;>(conv=>whnf))|refine kY ?_ ?_)
   all_goals first|rfl|omega|(rw [List.take_length];done)|(rw [List.take_length];exact List.take_of_length_le (by rw [(hC.foldl hs).len];omega))|(rw [List.take_length,(hC.foldl hs).len];omega)|trace_state
open Go Go.RowKit Eng
def fW (l : List Player) : List aa:=l.flatMap fun p=>p.bag ++ p.offer
def fz (l : List Chunk) : List aa:=l.flatMap fun c=>c.heaps.map (·.slot) ++ c.boxes.flatMap (·.bag)
def bK (w : Wld) : List aa:=fW w.players ++ fz w.chunks
abbrev aq : List Int:=List.replicate 13 0
theorem zg : eO aq 0:=⟨by decide,fun i hi=>by
 have : elt .i64 aq i = 0:=by
  unfold elt;rw [List.getElem?_replicate];rw [if_pos hi];rfl
 rw [this];exact ⟨Int.le_refl _,Int.le_refl _⟩⟩
def tot (L : List aa) : List Int:=L.foldl dc aq
theorem tW {L : List aa} (h : ∀ s ∈ L,gY s) : eO (tot L) (16 * L.length):=(zg.foldl h).mono (by omega)
theorem vg (A B : List aa) : tot (A ++ B) = B.foldl dc (tot A):=List.foldl_append
def lgP (w : Wld) (k : Nat) : List aa:=fW (w.players.take k)
def lgC (w : Wld) (k : Nat) : List aa:=fW w.players ++ fz (w.chunks.take k)
def lgH (w : Wld) (k j : Nat) : List aa:=lgC w k ++ ((elt .chunk w.chunks k).heaps.take j).map (·.slot)
def lgB (w : Wld) (k j : Nat) : List aa:=lgH w k (elt .chunk w.chunks k).heaps.length ++ ((elt .chunk w.chunks k).boxes.take j).flatMap (·.bag)
theorem B6 (w : Wld) : lgP w w.players.length = lgC w 0:=by unfold lgP lgC fz;rw [List.take_length];simp
theorem zh {w : Wld} {k : Nat} (h : k < w.players.length) : lgP w (k + 1) = lgP w k ++ ((elt .player w.players k).bag ++ (elt .player w.players k).offer):=by
 unfold lgP fW
 rw [List.take_add_one,ar .player _ _ h,Option.toList_some,List.flatMap_append];simp
theorem zl (w : Wld) (k : Nat) : lgH w k 0 = lgC w k:=by unfold lgH;simp
theorem zm {w : Wld} {k j : Nat} (h : j < (elt .chunk w.chunks k).heaps.length) : lgH w k (j + 1) = lgH w k j ++ [(elt .heap (elt .chunk w.chunks k).heaps j).slot]:=by
 unfold lgH
 rw [List.take_add_one,ar .heap _ _ h,Option.toList_some,List.map_append,← List.append_assoc];rfl
theorem sR (w : Wld) (k : Nat) : lgB w k 0 = lgH w k (elt .chunk w.chunks k).heaps.length:=by unfold lgB;simp
theorem zn {w : Wld} {k j : Nat} (h : j < (elt .chunk w.chunks k).boxes.length) : lgB w k (j + 1) = lgB w k j ++ (elt .box (elt .chunk w.chunks k).boxes j).bag:=by
 unfold lgB
 rw [List.take_add_one,ar .box _ _ h,Option.toList_some,List.flatMap_append,← List.append_assoc];simp
theorem vh {w : Wld} {k : Nat} (h : k < w.chunks.length) : lgB w k (elt .chunk w.chunks k).boxes.length = lgC w (k + 1):=by
 unfold lgB lgH lgC fz
 rw [List.take_length,List.take_length,List.take_add_one,ar .chunk _ _ h,Option.toList_some,List.flatMap_append];simp
theorem B7 (w : Wld) : lgC w w.chunks.length = bK w:=by unfold lgC bK;rw [List.take_length]
structure zo (w : Wld) : Prop where
 bag : ∀ p ∈ w.players,∀ s ∈ p.bag,gY s
 offer : ∀ p ∈ w.players,∀ s ∈ p.offer,gY s
 heap : ∀ c ∈ w.chunks,∀ h ∈ c.heaps,gY h.slot
 box : ∀ c ∈ w.chunks,∀ b ∈ c.boxes,∀ s ∈ b.bag,gY s
theorem tX {l : List Player} {s : aa} (h : s ∈ fW l) : ∃ p ∈ l,s ∈ p.bag ∨ s ∈ p.offer:=by
 unfold fW at h
 rw [List.mem_flatMap] at h
 obtain ⟨p,hp,hs⟩:=h
 exact ⟨p,hp,List.mem_append.1 hs⟩
theorem tY {l : List Chunk} {s : aa} (h : s ∈ fz l) : ∃ c ∈ l,(∃ h ∈ c.heaps,h.slot = s) ∨ ∃ b ∈ c.boxes,s ∈ b.bag:=by
 unfold fz at h
 rw [List.mem_flatMap] at h
 obtain ⟨c,hc,hs⟩:=h
 refine ⟨c,hc,(List.mem_append.1 hs).imp ?_ ?_⟩
 ·intro h;rw [List.mem_map] at h;exact h
 ·intro h;rw [List.mem_flatMap] at h;exact h
theorem zo.fit {w : Wld} (h : zo w) : ∀ s ∈ bK w,gY s:=by
 intro s hs
 rcases List.mem_append.1 hs with hs|hs
 ·obtain ⟨p,hp,hs⟩:=tX hs
  rcases hs with hs|hs
  ·exact h.bag p hp s hs
  ·exact h.offer p hp s hs
 ·obtain ⟨c,hc,hs⟩:=tY hs
  rcases hs with ⟨x,hx,rfl⟩|⟨b,hb,hs⟩
  ·exact h.heap c hc x hx
  ·exact h.box c hc b hb s hs
theorem q_ (w : Wld) (k : Nat) : lgC w k <+: bK w:=by
 unfold lgC bK
 rw [List.prefix_append_right_inj]
 unfold fz
 conv=>rhs;rw [← List.take_append_drop k w.chunks,List.flatMap_append]
 exact List.prefix_append _ _
theorem B8 (w : Wld) (k : Nat) : lgP w k <+: bK w:=by
 refine List.IsPrefix.trans ?_ (q_ w 0)
 unfold lgP lgC fz
 simp only [List.take_zero,List.flatMap_nil,List.append_nil]
 unfold fW
 conv=>rhs;rw [← List.take_append_drop k w.players,List.flatMap_append]
 exact List.prefix_append _ _
theorem vi {w : Wld} {k : Nat} (h : k < w.chunks.length) (j : Nat) : lgB w k j <+: bK w:=by
 refine List.IsPrefix.trans ?_ (q_ w (k + 1))
 rw [← vh h]
 unfold lgB
 rw [List.prefix_append_right_inj]
 conv=>rhs;rw [List.take_length,← List.take_append_drop j (elt .chunk w.chunks k).boxes,List.flatMap_append]
 exact List.prefix_append _ _
theorem B9 {w : Wld} {k : Nat} (h : k < w.chunks.length) (j : Nat) : lgH w k j <+: bK w:=by
 refine List.IsPrefix.trans ?_ (vi h 0)
 rw [sR]
 unfold lgH
 rw [List.prefix_append_right_inj]
 conv=>rhs;rw [List.take_length,← List.take_append_drop j (elt .chunk w.chunks k).heaps,List.map_append]
 exact List.prefix_append _ _
theorem rf {w : Wld} (h : zo w) (hl : (bK w).length ≤ 18014398509481984) {L : List aa} (hp : L <+: bK w) : eO (tot L) 288230376151711744:=
 (tW fun s hs=>h.fit s (hp.subset hs)).mono (by have:=hp.length_le;omega)
theorem Fv {w : Wld} {p : Player} (h : p ∈ w.players) : p.bag.length + p.offer.length ≤ (bK w).length:=by
 obtain ⟨a,b,e⟩:=List.append_of_mem h
 unfold bK fW
 rw [e,List.flatMap_append,List.flatMap_cons]
 simp only [List.length_append]
 omega
theorem KE {w : Wld} {c : Chunk} {b : Box} (h : c ∈ w.chunks) (hb : b ∈ c.boxes) : b.bag.length ≤ (bK w).length:=by
 obtain ⟨x,y,e⟩:=List.append_of_mem h
 obtain ⟨x2,y2,e2⟩:=List.append_of_mem hb
 unfold bK fz
 rw [e,List.flatMap_append,List.flatMap_cons,e2,List.flatMap_append,List.flatMap_cons]
 simp only [List.length_append]
 omega
theorem zp (w : Wld) (hF : zo w) (hl : (bK w).length ≤ 18014398509481984) (hw : OkW w) : Ev1 Tryz.prog 114 [az w,jC 0] [(0,.box [.own .i64 1 0 13 (some 13)]),(1,.row .i64 aq)] (.tup []) (nk 0 1 (tot (bK w))):=by
 have hnp:=hw.np
 have hnc:=hw.nc
 have hP : ∃ P : Nat → List (El .i64),P 0 = aq ∧ P w.players.length = tot (lgC w 0) ∧ (∀ k,eO (P k) 288230376151711744) ∧ (∀ k,k < w.players.length → P (k + 1) = (elt .player w.players k).offer.foldl dc ((elt .player w.players k).bag.foldl dc (P k))):=
  ⟨fun k=>tot (lgP w k),rfl,by dsimp only;rw [B6],fun k=>rf hF hl (B8 w k),fun k hk=>by dsimp only;rw [zh hk,vg,List.foldl_append]⟩
 have hQ : ∃ Q : Nat → List (El .i64),Q 0 = tot (lgC w 0) ∧ Q w.chunks.length = tot (bK w) ∧ (∀ k,eO (Q k) 288230376151711744) ∧
   (∀ k,k < w.chunks.length → ∃ H B : Nat → List (El .i64),H 0 = Q k ∧ H (elt .chunk w.chunks k).heaps.length = B 0 ∧ B (elt .chunk w.chunks k).boxes.length = Q (k + 1) ∧ (∀ j,eO (H j) 288230376151711744) ∧ (∀ j,eO (B j) 288230376151711744) ∧
    (∀ j,j < (elt .chunk w.chunks k).heaps.length → H (j + 1) = dc (H j) (elt .heap (elt .chunk w.chunks k).heaps j).slot) ∧
    (∀ j,j < (elt .chunk w.chunks k).boxes.length → B (j + 1) = (elt .box (elt .chunk w.chunks k).boxes j).bag.foldl dc (B j))):=
  ⟨fun k=>tot (lgC w k),rfl,by dsimp only;rw [B7],fun k=>rf hF hl (q_ w k),fun k hk =>
   ⟨fun j=>tot (lgH w k j),fun j=>tot (lgB w k j),by dsimp only;rw [zl],by dsimp only;rw [sR],by dsimp only;rw [vh hk],fun j=>rf hF hl (B9 hk j),fun j=>rf hF hl (vi hk j),
    fun j hj=>by dsimp only;rw [zm hj,vg];rfl,fun j hj=>by dsimp only;rw [zn hj,vg]⟩⟩
 obtain ⟨P,p0,p1,p2,p3⟩:=hP
 obtain ⟨Q,q0,q1,q2,q3⟩:=hQ
 rw [← q1]
 rw [← q0] at p1
 have hz:=zg.len
 rw [← p0] at hz ⊢
 refine eF Tryz.func114 60 ?_
 conv=>whnf
 repeat' (first|exact trivial|((first|(refine ⟨fun hb=>?_,fun hb=>?_⟩<;>(try simp only [nrm] at hb)<;>try exact kZ hb)|refine kV ?_)<;>(conv=>whnf))|refine kY ?_ ?_)
 refine ap.loopQ ah (σ:=Nat) [2,3,4,15,16,17] (fun k=>[.ptr 200004 0,.ptr 200006 0,.clo (.func 185) [] [.ptr 200006 0],.vec .player w.players,i64 w.players.length,i64 k])
  (fun k=>(200004,.box (bA w)) :: (200006,.box [jC 0]) :: nk 0 1 (P k)) (fun k=>k ≤ w.players.length) (fun k=>w.players.length - k) 0 (by omega) ?_ ?_
 ·conv=>whnf
  repeat' (first|exact trivial|((first|(refine ⟨fun hb=>?_,fun hb=>?_⟩<;>(try simp only [nrm] at hb)<;>try exact kZ hb)|refine kV ?_)<;>(conv=>whnf))|refine kY ?_ ?_)
  all_goals first|rfl|omega|exact List.take_of_length_le (by omega)|trace_state
 ·intro k hk N hN hE hT
  have hz2:=(p2 k).len
  by_cases hlt : k < w.players.length
  ·have hm:=ao (t:=.player) hlt
   have hbl:=Fv hm
   have c1:=oD (elt .player w.players k).bag (P k) _ (p2 k) (hF.bag _ hm) (by omega) (by omega)
   have o1:=(p2 k).foldl (hF.bag _ hm)
   have c2:=oD (elt .player w.players k).offer _ _ o1 (hF.offer _ hm) (by omega) (by omega)
   rw [← p3 k hlt] at c2
   have hz3:=o1.len
   have hz4:=(p2 (k + 1)).len
   generalize (elt .player w.players k).bag.foldl dc (P k) = D at *
   conv=>whnf
   repeat' (first|exact trivial|((first|refine kL ?_|(refine ⟨fun hb=>?_,fun hb=>?_⟩<;>(try simp only [nrm] at hb)<;>try exact kZ hb)|refine kE c1 [(0,0),(1,1),(2,200006)] rfl ?_|refine kF c1 [(0,0),(1,1),(2,200006)] rfl ?_|refine kE c2 [(0,0),(1,1),(2,200006)] rfl ?_|refine kF c2 [(0,0),(1,1),(2,200006)] rfl ?_|refine kV ?_)<;>(conv=>whnf))|refine kY ?_ ?_)
   refine hN _ _ ?_
   conv=>whnf
   refine .to (k + 1) (by omega) (by omega) ?_
   conv=>whnf
   repeat' (first|exact trivial|((first|(refine ⟨fun hb=>?_,fun hb=>?_⟩<;>(try simp only [nrm] at hb)<;>try exact kZ hb)|refine kV ?_)<;>(conv=>whnf))|refine kY ?_ ?_)
   all_goals first|rfl|omega|exact List.take_of_length_le (by omega)|trace_state
  ·obtain rfl : k = w.players.length:=by omega
   have hz5:=(q2 0).len
   conv=>whnf
   repeat' (first|exact trivial|((first|(refine ⟨fun hb=>?_,fun hb=>?_⟩<;>(try simp only [nrm] at hb)<;>try exact kZ hb)|refine kV ?_)<;>(conv=>whnf))|refine kY ?_ ?_)
   refine hE _ _ _ ?_
   conv=>whnf
   repeat' (first|exact trivial|((first|(refine ⟨fun hb=>?_,fun hb=>?_⟩<;>(try simp only [nrm] at hb)<;>try exact kZ hb)|refine kV ?_)<;>(conv=>whnf))|refine kY ?_ ?_)
   refine ap.loopQ ah (σ:=Nat) [3,4,31,32,33] (fun k=>[.ptr 200006 0,.clo (.func 185) [] [.ptr 200006 0],.vec .chunk w.chunks,i64 w.chunks.length,i64 k])
    (fun k=>(200006,.box [jC 0]) :: nk 0 1 (Q k)) (fun k=>k ≤ w.chunks.length) (fun k=>w.chunks.length - k) 0 (by omega) ?_ ?_
   ·conv=>whnf
    repeat' (first|exact trivial|((first|(refine ⟨fun hb=>?_,fun hb=>?_⟩<;>(try simp only [nrm] at hb)<;>try exact kZ hb)|refine kV ?_)<;>(conv=>whnf))|refine kY ?_ ?_)
    all_goals first|rfl|omega|(rw [p1];exact List.take_of_length_le (by omega))|(rw [p1];omega)|trace_state
   ·intro k hk N2 hN2 hE2 hT2
    have hz6:=(q2 k).len
    by_cases hlt2 : k < w.chunks.length
    ·have hm:=ao (t:=.chunk) hlt2
     obtain ⟨H,B,h0,h1,h2,h3,h4,h5,h6⟩:=q3 k hlt2
     have hok:=hw.fit _ hm
     have nh:=hok.heaps
     have nb:=hok.boxes
     have hbl:=fun b (hb : b ∈ (elt .chunk w.chunks k).boxes)=>KE hm hb
     have hhp:=hF.heap _ hm
     have hbx:=hF.box _ hm
     generalize hc : elt .chunk w.chunks k = c at *
     conv=>whnf
     repeat' (first|exact trivial|((first|(refine ⟨fun hb=>?_,fun hb=>?_⟩<;>(try simp only [nrm] at hb)<;>try exact kZ hb)|refine kV ?_)<;>(conv=>whnf))|refine kY ?_ ?_)
     rw [show elt .chunk w.chunks ((k : Nat) : Int).toNat = c from hc]
     have hz7:=(h3 0).len
     refine ap.loopQ ah (σ:=Nat) [3,4,8,31,32,33,38,39,40] (fun j=>[.ptr 200006 0,.clo (.func 185) [] [.ptr 200006 0],.ptr 200016 0,.vec .chunk w.chunks,i64 w.chunks.length,i64 k,.vec .heap c.heaps,i64 c.heaps.length,i64 j])
      (fun j=>(200006,.box [jC 0]) :: (200016,.box (bB c)) :: nk 0 1 (H j)) (fun j=>j ≤ c.heaps.length) (fun j=>c.heaps.length - j) 0 (by omega) ?_ ?_
     ·conv=>whnf
      repeat' (first|exact trivial|((first|(refine ⟨fun hb=>?_,fun hb=>?_⟩<;>(try simp only [nrm] at hb)<;>try exact kZ hb)|refine kV ?_)<;>(conv=>whnf))|refine kY ?_ ?_)
      all_goals first|rfl|omega|(rw [h0];exact List.take_of_length_le (by omega))|(rw [h0];omega)|trace_state
     ·intro j hj N3 hN3 hE3 hT3
      have hz8:=(h3 j).len
      by_cases hlj : j < c.heaps.length
      ·have hcl:=v_ (H j) (elt .heap c.heaps j).slot _ (h3 j) (hhp _ (ao (t:=.heap) hlj)) (by omega)
       rw [← h5 j hlj] at hcl
       have hz9:=(h3 (j + 1)).len
       conv=>whnf
       repeat' (first|exact trivial|((first|refine kL ?_|(refine ⟨fun hb=>?_,fun hb=>?_⟩<;>(try simp only [nrm] at hb)<;>try exact kZ hb)|refine kE hcl [(0,0),(1,1)] rfl ?_|refine kF hcl [(0,0),(1,1)] rfl ?_|refine kV ?_)<;>(conv=>whnf))|refine kY ?_ ?_)
       refine hN3 _ _ ?_
       conv=>whnf
       refine .to (j + 1) (by omega) (by omega) ?_
       conv=>whnf
       repeat' (first|exact trivial|((first|(refine ⟨fun hb=>?_,fun hb=>?_⟩<;>(try simp only [nrm] at hb)<;>try exact kZ hb)|refine kV ?_)<;>(conv=>whnf))|refine kY ?_ ?_)
       all_goals first|rfl|omega|exact List.take_of_length_le (by omega)|trace_state
      ·obtain rfl : j = c.heaps.length:=by omega
       rw [h1]
       have hz10:=(h4 0).len
       conv=>whnf
       repeat' (first|exact trivial|((first|(refine ⟨fun hb=>?_,fun hb=>?_⟩<;>(try simp only [nrm] at hb)<;>try exact kZ hb)|refine kV ?_)<;>(conv=>whnf))|refine kY ?_ ?_)
       refine hE3 _ _ _ ?_
       conv=>whnf
       repeat' (first|exact trivial|((first|(refine ⟨fun hb=>?_,fun hb=>?_⟩<;>(try simp only [nrm] at hb)<;>try exact kZ hb)|refine kV ?_)<;>(conv=>whnf))|refine kY ?_ ?_)
       refine ap.loopQ ah (σ:=Nat) [3,4,31,32,33,50,51,52] (fun j=>[.ptr 200006 0,.clo (.func 185) [] [.ptr 200006 0],.vec .chunk w.chunks,i64 w.chunks.length,i64 k,.vec .box c.boxes,i64 c.boxes.length,i64 j])
        (fun j=>(200006,.box [jC 0]) :: nk 0 1 (B j)) (fun j=>j ≤ c.boxes.length) (fun j=>c.boxes.length - j) 0 (by omega) ?_ ?_
       ·conv=>whnf
        repeat' (first|exact trivial|((first|(refine ⟨fun hb=>?_,fun hb=>?_⟩<;>(try simp only [nrm] at hb)<;>try exact kZ hb)|refine kV ?_)<;>(conv=>whnf))|refine kY ?_ ?_)
        all_goals first|rfl|omega|exact List.take_of_length_le (by omega)|trace_state
       ·intro j hj N4 hN4 hE4 hT4
        have hz11:=(h4 j).len
        by_cases hlj : j < c.boxes.length
        ·have hbm:=ao (t:=.box) hlj
         have hbb:=hbl _ hbm
         have hcl:=oD (elt .box c.boxes j).bag (B j) _ (h4 j) (hbx _ hbm) (by omega) (by omega)
         rw [← h6 j hlj] at hcl
         have hz12:=(h4 (j + 1)).len
         conv=>whnf
         repeat' (first|exact trivial|((first|refine kL ?_|(refine ⟨fun hb=>?_,fun hb=>?_⟩<;>(try simp only [nrm] at hb)<;>try exact kZ hb)|refine kE hcl [(0,0),(1,1),(2,200006)] rfl ?_|refine kF hcl [(0,0),(1,1),(2,200006)] rfl ?_|refine kV ?_)<;>(conv=>whnf))|refine kY ?_ ?_)
         refine hN4 _ _ ?_
         conv=>whnf
         refine .to (j + 1) (by omega) (by omega) ?_
         conv=>whnf
         repeat' (first|exact trivial|((first|(refine ⟨fun hb=>?_,fun hb=>?_⟩<;>(try simp only [nrm] at hb)<;>try exact kZ hb)|refine kV ?_)<;>(conv=>whnf))|refine kY ?_ ?_)
         all_goals first|rfl|omega|exact List.take_of_length_le (by omega)|trace_state
        ·obtain rfl : j = c.boxes.length:=by omega
         rw [h2]
         have hz13:=(q2 (k + 1)).len
         conv=>whnf
         repeat' (first|exact trivial|((first|(refine ⟨fun hb=>?_,fun hb=>?_⟩<;>(try simp only [nrm] at hb)<;>try exact kZ hb)|refine kV ?_)<;>(conv=>whnf))|refine kY ?_ ?_)
         refine hE4 _ _ _ ?_
         conv=>whnf
         repeat' (first|exact trivial|((first|(refine ⟨fun hb=>?_,fun hb=>?_⟩<;>(try simp only [nrm] at hb)<;>try exact kZ hb)|refine kV ?_)<;>(conv=>whnf))|refine kY ?_ ?_)
         refine hN2 _ _ ?_
         conv=>whnf
         refine .to (k + 1) (by omega) (by omega) ?_
         conv=>whnf
         repeat' (first|exact trivial|((first|(refine ⟨fun hb=>?_,fun hb=>?_⟩<;>(try simp only [nrm] at hb)<;>try exact kZ hb)|refine kV ?_)<;>(conv=>whnf))|refine kY ?_ ?_)
         all_goals first|rfl|omega|exact List.take_of_length_le (by omega)|trace_state
    ·obtain rfl : k = w.chunks.length:=by omega
     conv=>whnf
     repeat' (first|exact trivial|((first|(refine ⟨fun hb=>?_,fun hb=>?_⟩<;>(try simp only [nrm] at hb)<;>try exact kZ hb)|refine kV ?_)<;>(conv=>whnf))|refine kY ?_ ?_)
     refine hE2 _ _ _ ?_
     conv=>whnf
     repeat' (first|exact trivial|((first|(refine ⟨fun hb=>?_,fun hb=>?_⟩<;>(try simp only [nrm] at hb)<;>try exact kZ hb)|refine kV ?_)<;>(conv=>whnf))|refine kY ?_ ?_)
     all_goals first|rfl|omega|exact List.take_of_length_le (by omega)|trace_state
open Go Go.RowKit Eng
def iz (s : aa) : Prop:=0 ≤ s.item ∧ s.item ≤ 12 ∧ 0 ≤ s.n ∧ s.n ≤ ak s.item
theorem iz.fit {s : aa} (h : iz s) : gY s:=by have:=dG s.item;unfold iz at h;unfold gY;omega
theorem sS {l : List aa} (h : an l = true) (hw : ∀ s ∈ l,aQ s) : ∀ s ∈ l,iz s:=by
 intro s hs
 unfold an at h
 rw [Bool.not_eq_true',List.any_eq_false] at h
 have h1:=h s hs
 have h2:=hw s hs
 unfold bC at h1
 unfold aQ at h2
 unfold iz
 by_cases h3 : s.item = 0 ∧ s.n = 0
 ·rw [h3.1,h3.2];unfold ak;simp
 ·have h4 : 1 ≤ s.n ∧ s.n ≤ ak s.item:=by
   by_cases h5 : s.n < 1
   ·exfalso;apply h1
    rw [decide_eq_true h5]
    have : (s.item == 0 && s.n == 0) = false:=by
     rw [Bool.and_eq_false_iff]
     by_cases h6 : s.item = 0
     ·right;rw [beq_eq_false_iff_ne];intro h7;exact h3 ⟨h6,h7⟩
     ·left;rw [beq_eq_false_iff_ne];exact h6
    rw [this];rfl
   ·by_cases h6 : ak s.item < s.n
    ·exfalso;apply h1
     rw [decide_eq_true h6]
     have : (s.item == 0 && s.n == 0) = false:=by
      rw [Bool.and_eq_false_iff];right;rw [beq_eq_false_iff_ne];omega
     rw [this,Bool.or_true];rfl
    ·omega
  unfold ak at *
  (repeat' split at *)<;>omega
theorem Fw {s : aa} (h : ei s = true) (hw : aQ s) : iz s:=by
 unfold ei at h
 rw [Bool.and_eq_true,decide_eq_true_eq,decide_eq_true_eq] at h
 unfold aQ at hw
 unfold iz ak at *
 (repeat' split at *)<;>omega
theorem Fx {i : Nat} (hi : i < 13) : ∀ (L : List aa),(∀ s ∈ L,iz s) → ∀ C : List Int,C.length = 13 → elt .i64 (L.foldl dc C) i ≤ elt .i64 C i + L.length * ak i ∧ elt .i64 C i ≤ elt .i64 (L.foldl dc C) i
 | [],_,C,_=>by
  rw [List.foldl_nil,List.length_nil]
  refine ⟨?_,Int.le_refl _⟩
  rw [show ((0 : Nat) : Int) * ak i = 0 from Int.zero_mul _]
  exact Int.le_of_eq (Int.add_zero _).symm
 | s :: r,h,C,hC=>by
  have hs:=h s (by simp)
  obtain ⟨h1,h2⟩:=Fx hi r (fun x hx=>h x (List.mem_cons_of_mem _ hx)) (dc C s) (by unfold dc;rw [List.length_set];exact hC)
  rw [List.foldl_cons,List.length_cons]
  rw [oC hC hs.fit] at h1 h2
  have hm : ((r.length + 1 : Nat) : Int) * ak i = r.length * ak i + ak i:=by
   rw [Int.natCast_add,Int.add_mul];simp
  have hb:=dG i
  rw [hm]
  unfold iz at hs
  have h3 : (if i = s.item.toNat then elt .i64 C i + s.n else elt .i64 C i) ≤ elt .i64 C i + ak i ∧ elt .i64 C i ≤ (if i = s.item.toNat then elt .i64 C i + s.n else elt .i64 C i):=by
   split
   ·rename_i he
    have : ak i = ak s.item:=by rw [show (i : Int) = s.item by omega]
    generalize elt .i64 C i = e at *
    have he1 : s.n ≤ ak i:=by omega
    have he2 : 0 ≤ s.n:=hs.2.2.1
    exact ⟨Int.add_le_add_left he1 _,Int.le_add_of_nonneg_right he2⟩
   ·exact ⟨Int.le_add_of_nonneg_right hb.1,Int.le_refl _⟩
  generalize (if i = s.item.toNat then elt .i64 C i + s.n else elt .i64 C i) = e at *
  generalize elt .i64 (r.foldl dc (dc C s)) i = f at *
  generalize (r.length : Int) * ak i = g at *
  generalize ak i = q at *
  generalize elt .i64 C i = d at *
  have k2 : e ≤ f:=h2
  have k4 : d ≤ e:=h3.2
  have k5 : f ≤ d + (g + q):=by
   have h:=Int.le_trans h1 (Int.add_le_add_right h3.1 g)
   rwa [Int.add_assoc,Int.add_comm q g] at h
  exact ⟨k5,Int.le_trans k4 k2⟩
def mq (C : List Int) : Nat → Nat
 | 0=>0
 | k + 1=>mq C k + (if (0 : Int) < elt .i64 C k then 1 else 0)
theorem zq {C : List Int} {s : aa} (hl : C.length = 13) (hs : gY s) : ∀ k,mq (dc C s) k ≤ mq C k + (if s.item.toNat < k then 1 else 0)
 | 0=>by simp [mq]
 | k + 1=>by
  have ih:=zq hl hs k
  rw [mq,mq,oC hl hs]
  by_cases h : k = s.item.toNat
  ·rw [if_pos h];subst h
   rw [if_neg (by omega)] at ih
   rw [if_pos (show s.item.toNat < s.item.toNat + 1 by omega)]
   split<;>split<;>omega
  ·rw [if_neg h]
   by_cases h2 : s.item.toNat < k
   ·rw [if_pos h2] at ih;rw [if_pos (show s.item.toNat < k + 1 by omega)];omega
   ·rw [if_neg h2] at ih;rw [if_neg (show ¬ s.item.toNat < k + 1 by omega)];omega
theorem zs : ∀ (L : List aa),(∀ s ∈ L,iz s) → ∀ C : List Int,C.length = 13 → mq (L.foldl dc C) 13 ≤ mq C 13 + L.length
 | [],_,C,_=>by simp
 | s :: r,h,C,hC=>by
  have hs:=h s (by simp)
  have ih:=zs r (fun x hx=>h x (List.mem_cons_of_mem _ hx)) (dc C s) (by unfold dc;rw [List.length_set];exact hC)
  have h1:=zq hC hs.fit 13
  rw [List.foldl_cons,List.length_cons]
  split at h1<;>omega
theorem nl : ∀ (l : List Int) (k : Nat) (bs rest : List Box),bT l k bs = some rest → ∀ b ∈ bs,b ∈ rest ∨ ((b.bag.length : Int) = 6 ∧ an b.bag = true)
 | [],_,bs,rest,h,b,hb=>by unfold bT at h;exact .inl (Option.some.inj h ▸ hb)
 | i :: r,k,bs,rest,h,b,hb=>by
  unfold bT at h
  split at h
  ·split at h
   ·cases bs with
    | nil=>cases h
    | cons c t =>
     simp only at h
     split at h
     ·rename_i hbx
      rcases List.mem_cons.1 hb with rfl|hb
      ·unfold gn at hbx
       rw [Bool.and_eq_true,Bool.and_eq_true,decide_eq_true_eq] at hbx
       exact .inr hbx.2
      ·exact nl r (k + 1) t rest h b hb
     ·cases h
   ·exact nl r (k + 1) bs rest h b hb
  ·cases h
theorem nm {c : Chunk} (h : ai c = true) : (∀ b ∈ c.boxes,(b.bag.length : Int) = 6 ∧ an b.bag = true) ∧ (∀ x ∈ c.heaps,cw x = false) ∧ dP c = true:=by
 unfold ai at h
 rw [Bool.and_eq_true] at h
 obtain ⟨h1,h2⟩:=h
 split at h2
 ·rename_i hg
  refine ⟨fun b hb=>?_,?_,h1⟩
  ·rcases nl _ _ _ _ hg b hb with h|h
   ·cases h
   ·exact h
  ·rw [Bool.not_eq_true',List.any_eq_false] at h2
   intro x hx;have:=h2 x hx;rwa [Bool.not_eq_true] at this
 ·cases h2
theorem cm {p : Player} (h : a7 p = true) : 0 ≤ p.id ∧ p.id ≤ 1073741824 ∧ (p.bag.length : Int) = 8 ∧ an p.bag = true ∧ ((p.wth = -1 ∧ p.offer = [] ∧ p.agrees = false) ∨ (0 ≤ p.wth ∧ p.wth ≤ 1073741824 ∧ p.wth ≠ p.id ∧ (p.offer.length : Int) = 8 ∧ an p.offer = true)):=by
 unfold a7 jL at h
 by_cases hw : p.wth = -1
 ·rw [if_pos hw] at h
  simp only [Bool.and_eq_true,decide_eq_true_eq,Bool.not_eq_true'] at h
  obtain ⟨h1,h2,⟨h3,h4⟩,h5,h6⟩:=h
  exact ⟨h1,h2,h3,h4,.inl ⟨hw,List.length_eq_zero_iff.1 (by omega),h6⟩⟩
 ·rw [if_neg hw] at h
  simp only [Bool.and_eq_true,decide_eq_true_eq,Bool.not_eq_true',decide_eq_false_iff_not] at h
  obtain ⟨h1,h2,⟨h3,h4⟩,h5,h6,h7,h8,h9⟩:=h
  exact ⟨h1,h2,h3,h4,.inr ⟨h5,h6,h7,h8,h9⟩⟩
theorem oE {w : Wld} (h : RW w) (hw : OkW w) : ∀ s ∈ bK w,iz s:=by
 intro s hs
 rcases List.mem_append.1 hs with hs|hs
 ·obtain ⟨p,hp,hs⟩:=tX hs
  obtain ⟨_,_,_,h4,h5⟩:=cm (h.players p hp).1
  have hok:=hw.players p hp
  rcases hs with hs|hs
  ·exact sS h4 hok.bag s hs
  ·rcases h5 with ⟨_,h5,_⟩|⟨_,_,_,_,h5⟩
   ·rw [h5] at hs;cases hs
   ·exact sS h5 hok.offer s hs
 ·obtain ⟨c,hc,hs⟩:=tY hs
  obtain ⟨h1,h2,_⟩:=nm (h.chunks c hc).1
  have hok:=hw.chunks c hc
  rcases hs with ⟨x,hx,rfl⟩|⟨b,hb,hs⟩
  ·have h3:=h2 x hx
   unfold cw at h3
   rw [Bool.or_eq_false_iff,Bool.not_eq_false',Bool.not_eq_false'] at h3
   exact Fw h3.2 (hok.heaps x hx)
  ·exact sS (h1 b hb).2 (hok.boxes b hb).1 s hs
theorem kv {w : Wld} (h : RW w) (hw : OkW w) : zo w:=by
 have hn:=oE h hw
 have h1 : ∀ s,s ∈ fW w.players → gY s:=fun s hs=>(hn s (List.mem_append_left _ hs)).fit
 have h2 : ∀ s,s ∈ fz w.chunks → gY s:=fun s hs=>(hn s (List.mem_append_right _ hs)).fit
 unfold fW at h1
 unfold fz at h2
 refine ⟨fun p hp s hs=>h1 s ?_,fun p hp s hs=>h1 s ?_,fun c hc x hx=>h2 _ ?_,fun c hc b hb s hs=>h2 s ?_⟩
 ·exact List.mem_flatMap.2 ⟨p,hp,List.mem_append_left _ hs⟩
 ·exact List.mem_flatMap.2 ⟨p,hp,List.mem_append_right _ hs⟩
 ·exact List.mem_flatMap.2 ⟨c,hc,List.mem_append_left _ (List.mem_map.2 ⟨x,hx,rfl⟩)⟩
 ·exact List.mem_flatMap.2 ⟨c,hc,List.mem_append_right _ (List.mem_flatMap.2 ⟨b,hb,hs⟩)⟩
def pS (w : Wld) : Nat:=((w.players.map fun p=>p.bag.length + p.offer.length).sum) + ((w.chunks.map fun c=>c.heaps.length + 6 * c.boxes.length).sum)
theorem Jo {l : List Box} (h : ∀ b ∈ l,(b.bag.length : Int) = 6) : (l.flatMap (·.bag)).length = 6 * l.length:=by
 induction l with
 | nil=>rfl
 | cons b r ih =>
  have:=h b (by simp)
  rw [List.flatMap_cons,List.length_append,ih fun x hx=>h x (List.mem_cons_of_mem _ hx),List.length_cons]
  omega
theorem wa {w : Wld} (h : RW w) : (bK w).length = pS w:=by
 unfold bK pS fW fz
 rw [List.length_append,List.length_flatMap,List.length_flatMap]
 congr 2
 ·apply List.map_congr_left;intro p _;rw [List.length_append]
 ·apply List.map_congr_left
  intro c hc
  rw [List.length_append,List.length_map,Jo fun b hb=>((nm (h.chunks c hc).1).1 b hb).1]
def bY (w : Wld) : List Int:=if aO w = true then tot (bK w) else aq
theorem gb (i : Nat) (h : i < 13) : elt .i64 aq i = (0 : Int):=by
 unfold elt;rw [List.getElem?_replicate];rw [if_pos h];rfl
theorem HD : ∀ k,k ≤ 13 → mq aq k = 0
 | 0,_=>rfl
 | k + 1,h=>by rw [mq,HD k (by omega),gb k (by omega)];rfl
theorem jP {w : Wld} (hw : OkW w) : (bY w).length = 13 ∧ elt .i64 (bY w) 0 = (0 : Int) ∧ (∀ i : Nat,i < 13 → inN (pS w * ak i) (elt .i64 (bY w) i)) ∧ mq (bY w) 13 ≤ pS w:=by
 unfold bY
 by_cases hR : aO w = true
 ·rw [if_pos hR]
  have hRW:=aK.1 hR
  have hn:=oE hRW hw
  have hb:=fun (i : Nat) (hi : i < 13)=>Fx hi (bK w) hn aq (by decide)
  rw [← wa hRW]
  have h0 : ∀ i : Nat,i < 13 → inN ((bK w).length * ak i) (elt .i64 (tot (bK w)) i):=fun i hi=>by
   obtain ⟨h1,h2⟩:=hb i hi
   rw [gb i hi] at h1 h2
   refine ⟨h2,?_⟩
   have h3 : elt .i64 (tot (bK w)) i ≤ (0 : Int) + (bK w).length * ak i:=h1
   rwa [Int.zero_add] at h3
  refine ⟨(tW fun s hs=>(hn s hs).fit).len,?_,h0,?_⟩
  ·have:=h0 0 (by omega)
   rw [show ak ((0 : Nat) : Int) = 0 from rfl,Int.mul_zero] at this
   exact Int.le_antisymm this.2 this.1
  ·have:=zs (bK w) hn aq (by decide)
   rw [HD 13 (by omega)] at this
   unfold tot;omega
 ·rw [if_neg hR]
  refine ⟨by decide,gb 0 (by omega),fun i hi=>?_,?_⟩
  ·rw [gb i hi]
   exact ⟨Int.le_refl _,Int.mul_nonneg (by omega) (dG i).1⟩
  ·rw [HD 13 (by omega)];omega
open Go Go.RowKit Eng
theorem pT {i : Int} (h : cK i = true) : 0 ≤ i ∧ i ≤ 12:=by
 unfold cK cG at h
 simp only [Bool.or_eq_true,beq_iff_eq,Bool.and_eq_true,decide_eq_true_eq] at h
 omega
theorem gZ {s : aa} (h : ei s = true) : aQ s ∧ 1 ≤ s.n ∧ s.n ≤ 16:=by
 simp only [ei,Bool.and_eq_true,decide_eq_true_eq] at h
 have:=dG s.item
 exact ⟨rZ (by omega),by omega,by omega⟩
theorem ll {c : Chunk} (h : ai c = true) {x : du} (hx : x ∈ c.heaps) : ei x.slot = true ∧ 0 ≤ x.cell ∧ x.cell < 64:=by
 have hh:=((dX c).1 h).2.2
 rw [List.any_eq_false] at hh
 have h2:=hh x hx
 simp only [cw,Bool.or_eq_true,Bool.not_eq_true',not_or,Bool.not_eq_false,Bool.and_eq_true,decide_eq_true_eq] at h2
 exact ⟨h2.2,h2.1⟩
theorem aS {c : Chunk} (h : ai c = true) : OkC c:=by
 refine ⟨fun i hi=>by have:=pT ((cS h).items i hi);omega,fun x hx=>(gZ (ll h hx).1).1,fun b hb=>?_,?_,?_,?_⟩
 ·obtain ⟨h1,h2⟩:=i7 h hb
  exact ⟨aX h2,by rw [h1];unfold big;omega⟩
 ·rw [eu h];unfold big;omega
 ·have:=fJ h;unfold big;omega
 ·have:=rW h;unfold big;omega
theorem bS {p : Player} (h : a7 p = true) : OkP p:=by
 obtain ⟨_,_,h3,h4,h5⟩:=cm h
 refine ⟨aX h4,?_,by omega,?_⟩
 ·rcases h5 with ⟨_,h,_⟩|⟨_,_,_,_,h⟩
  ·rw [h];simp
  ·exact aX h
 ·rcases h5 with ⟨_,h,_⟩|⟨_,_,_,h,_⟩
  ·rw [h];simp
  ·omega
theorem bZ {w : Wld} (h : RW w) : OkW w:=
 ⟨fun c hc=>aS (h.chunks c hc).1,fun c hc=>aV (h.chunks c hc).1,fun p hp=>bS (h.players p hp).1,by have:=h.few;omega,by have:=h.size;omega⟩
theorem sT (s x y : Int) : cK (jt s x y) = true ∧ jt s x y ≠ 9:=by
 unfold jt
 simp only []
 (repeat' split)<;>exact ⟨by decide,by decide⟩
theorem wb {s x y : Int} (hx : 0 ≤ x ∧ x < 16) (hy : 0 ≤ y ∧ y < 16) : ai (eh s x y) = true:=by
 rw [dX]
 have hl : (gl s x y 64).length = 64:=dL _ _ _ _
 have hm : ∀ i ∈ gl s x y 64,cK i = true ∧ i ≠ 9:=by
  intro i hi
  unfold gl at hi
  rw [List.mem_map] at hi
  obtain ⟨j,_,rfl⟩:=hi
  exact sT _ _ _
 refine ⟨?_,⟨fun i hi=>(hm i hi).1,trivial,by simp [eh],fun j hj=>?_⟩,rfl⟩
 ·unfold dP
  rw [show (eh s x y).cells.length = 64 from hl,show (eh s x y).heaps.length = 0 from rfl,show (eh s x y).x = x from rfl,show (eh s x y).y = y from rfl]
  simp only [Bool.and_eq_true,decide_eq_true_eq]
  omega
 ·have hj' : j < (gl s x y 64).length:=hj
  have hg : (eh s x y).cells.getD j 0 = (gl s x y 64)[j]:=by
   show (gl s x y 64).getD j 0 = _
   rw [List.getD_eq_getElem?_getD,List.getElem?_eq_getElem hj'];rfl
  rw [hg]
  have:=(hm _ (List.getElem_mem hj')).2
  simp [eh,bu,this]
theorem c9 (x y : Int) : 0 ≤ aJ x y ∧ aJ x y < 64:=by unfold aJ;omega
theorem AL {w : Wld} {x y : Int} (hR : RW w) (hx : 0 ≤ x ∧ x < w.size) (hy : 0 ≤ y ∧ y < w.size) : ai (ba w x y).1 = true:=by
 have hs:=hR.size
 rw [(i9 hR hx hy).1]
 dsimp only
 cases hg : aH aI w.chunks (aI (atC x y)) with
 | none=>exact wb (by omega) (by omega)
 | some c=>exact (hR.chunks c (gq hg).1).1
theorem cd {w : Wld} {x y : Int} (hR : RW w) (h : av w.size x y = true) : ai (aA w x y) = true ∧ (aA w x y).x = x / 8 ∧ (aA w x y).y = y / 8:=by
 have h1:=(a6 hR).1 h
 obtain ⟨_,h3,h4⟩:=i9 hR (x:=x / 8) (y:=y / 8) (by omega) (by omega)
 exact ⟨AL hR (by omega) (by omega),h3,h4⟩
theorem g6 {w : Wld} {p : Player} {x y : Int} (h : dF w p x y = 0) : av w.size x y = true ∧ d_ p x y = true:=by
 unfold dF at h
 split at h
 ·omega
 ·rename_i h1
  split at h
  ·omega
  ·rename_i h2
   exact ⟨Bool.not_eq_false _ ▸ h1,Bool.not_eq_false _ ▸ h2⟩
theorem Fy {c : Chunk} (h : ai c = true) {l : List du} (hl : l.length ≤ 32) (hb : l.any cw = false) : ai { c with heaps:=l } = true:=by
 obtain ⟨h1,h2,h3⟩:=(dX c).1 h
 rw [dX]
 refine ⟨?_,h2,hb⟩
 simp only [dP,Bool.and_eq_true,decide_eq_true_eq] at h1 ⊢
 exact ⟨h1.1,h1.2.1,h1.2.2.1,h1.2.2.2.1,h1.2.2.2.2.1,by omega⟩
theorem oF {c : Chunk} (h : ai c = true) {t : Int} {s : aa} (ht : 0 ≤ t ∧ t < 64) : ai (b9 c t s).1 = true:=by
 unfold b9
 rw [if_neg (by rw [h];simp),if_neg (by omega)]
 cases hs : ei s with
 | false=>rw [if_pos rfl];exact h
 | true =>
  rw [if_neg (by simp)]
  by_cases h32 : 32 ≤ c.heaps.length
  ·rw [if_pos h32];exact h
  ·rw [if_neg h32]
   refine Fy h (by simp;omega) ?_
   rw [List.any_append,((dX c).1 h).2.2]
   simp [cw,hs,ht]
theorem lm {c : Chunk} (h : ai c = true) (t : Int) (l : List aa) : ai (ct c t l).1 = true:=by
 rw [kd h]
 split
 ·exact h
 ·rename_i h1
  split
  ·exact h
  ·rename_i h2
   exact FO h (by
    rw [mW (cS h).up]
    cases hh : (bu c.boxes t).isSome with
    | true=>rfl
    | false=>exact absurd hh h1) (by simpa using h2)
theorem oG {c : Chunk} (h : ai c = true) (t : Int) : ai (cE c t).1 = true ∧ ∀ s ∈ (cE c t).2,ei s = true:=by
 unfold cE
 rw [if_pos h]
 refine ⟨Fy h (Nat.le_trans (List.length_filter_le _ _) (fJ h)) ?_,fun s hs=>?_⟩
 ·have hh:=((dX c).1 h).2.2
  rw [List.any_eq_false] at hh ⊢
  exact fun x hx=>hh x (List.mem_filter.1 hx).1
 ·simp only [c7,List.mem_map] at hs
  obtain ⟨x,hx,rfl⟩:=hs
  exact (ll h (List.mem_filter.1 hx).1).1
theorem pU {c : Chunk} (h : ai c = true) {t : Int} (hb : (c8 c t).2 = true) : (c8 c t).1.length = 6 ∧ an (c8 c t).1 = true:=by
 rw [g8 h] at hb ⊢
 dsimp only at hb ⊢
 obtain ⟨s,hs⟩:=Option.isSome_iff_exists.1 hb
 obtain ⟨b,h1,_,h3⟩:=oQ hs
 rw [hs]
 show s.length = 6 ∧ an s = true
 rw [← h3]
 exact i7 h h1
theorem fA {p : Player} (h : a7 p = true) {l : List aa} (h1 : l.length = 8) (h2 : an l = true) : a7 { p with bag:=l } = true:=by
 unfold a7 at h ⊢
 simp only [Bool.and_eq_true,decide_eq_true_eq] at h ⊢
 refine ⟨h.1,h.2.1,?_,h.2.2.2⟩
 unfold jL
 rw [h2,Bool.and_true,decide_eq_true_eq];omega
theorem Fz {p : Player} (h : a7 p = true) (x y : Int) : a7 { p with x:=x,y:=y } = true:=h
theorem dU {p : Player} (h : OkP p) {l : List aa} (h1 : ∀ s ∈ l,aQ s) (h2 : l.length * 16 ≤ 140737488351232) : OkP { p with bag:=l }:=⟨h1,h.offer,h2,h.no⟩
theorem eD {w : Wld} {p : Player} (hR : RW w) (h : a7 p = true) (h2 : av w.size p.x p.y = true) : bV p = true:=by
 have h3:=(a6 hR).1 h2
 have hs:=hR.size
 unfold bV av
 rw [h,Bool.true_and,pI (by omega) (by omega)]
 simp only [Bool.and_eq_true,decide_eq_true_eq]
 omega
theorem oH {p q : Player} (h : p.id = q.id) (a n : Int) : cB p q a n = (p,q,110):=by
 unfold cB fO;rw [decide_eq_true h];rfl
theorem oI {p q : Player} (h : p.id = q.id) : bo p q = (p,q,false,110):=by
 unfold bo fO;rw [decide_eq_true h];rfl
theorem rS {p q : Player} (h : p.id = q.id) : b6 p q = (p,q,110):=by
 unfold b6 fO;rw [decide_eq_true h];rfl
theorem wc {p q : Player} (hp : bV p = true) (hq : bV q = true) (a n : Int) : bV (cB p q a n).1 = true ∧ bV (cB p q a n).2.1 = true:=by
 by_cases h : p.id = q.id
 ·rw [oH h];exact ⟨hp,hq⟩
 ·have:=uc hp hq h a n;exact ⟨this.ma,this.mb⟩
theorem wd {p q : Player} (hp : bV p = true) (hq : bV q = true) : bV (bo p q).1 = true ∧ bV (bo p q).2.1 = true:=by
 by_cases h : p.id = q.id
 ·rw [oI h];exact ⟨hp,hq⟩
 ·have:=(ud hp hq h).1;exact ⟨this.ma,this.mb⟩
theorem tZ {p q : Player} (hp : bV p = true) (hq : bV q = true) : bV (b6 p q).1 = true ∧ bV (b6 p q).2.1 = true:=by
 have:=r_ hp hq;exact ⟨this.ma,this.mb⟩
open Go Go.RowKit Eng
def cv {α : Type} (f : α → Int) : List α → Int
 | []=>0
 | a :: r=>f a + cv f r
def cO {α : Type} (f : α → Int) : Option α → Int
 | some b=>f b
 | none=>0
theorem sU {α : Type} {key : α → Int} (f : α → Int) (x : α) : ∀ l : List α,cv f (eN key x l) = f x + cv f l
 | []=>rfl
 | b :: r=>by
  have ih:=sU (key:=key) f x r
  simp only [eN]
  split<;>simp only [cv,ih]
  omega
theorem sV {α : Type} {key : α → Int} (f : α → Int) {t : Int} : ∀ {l : List α},bi key l → cv f (dZ key t l) = cv f l - cO f (aH key l t)
 | [],_=>rfl
 | b :: r,h=>by
  have ih:=sV f (t:=t) h.2
  simp only [dZ,aH]
  by_cases h1 : key b < t
  ·rw [if_pos h1,if_neg (show ¬ key b = t by omega)]
   simp only [cv,ih];omega
  ·rw [if_neg h1]
   by_cases h2 : key b = t
   ·rw [if_pos h2,if_pos h2];simp only [cv,cO];omega
   ·rw [if_neg h2,if_neg h2,dm.2 fun x hx=>by have:=h.1 x hx;omega]
    simp only [cO];omega
def pc (i : Int) (p : Player) : Int:=ac p.bag i + ac p.offer i
def bc (i : Int) (b : Box) : Int:=ac b.bag i
def cc (i : Int) (c : Chunk) : Int:=ac (c.heaps.map (·.slot)) i + cv (bc i) c.boxes
def tw (i : Int) (w : Wld) : Int:=cv (pc i) w.players + cv (cc i) w.chunks
theorem rT (i : Int) : ∀ l : List Box,ac (l.flatMap (·.bag)) i = cv (bc i) l
 | []=>rfl
 | b :: r=>by rw [List.flatMap_cons,cu,rT i r];rfl
theorem pV (i : Int) : ∀ l : List Player,ac (fW l) i = cv (pc i) l
 | []=>rfl
 | b :: r=>by
  have ih:=pV i r
  unfold fW at ih ⊢
  rw [List.flatMap_cons,cu,cu,ih];rfl
theorem pW (i : Int) : ∀ l : List Chunk,ac (fz l) i = cv (cc i) l
 | []=>rfl
 | b :: r=>by
  have ih:=pW i r
  unfold fz at ih ⊢
  rw [List.flatMap_cons,cu,cu,rT,ih];rfl
theorem nq (i : Int) (w : Wld) : ac (bK w) i = tw i w:=by
 unfold bK tw
 rw [cu,pV,pW]
theorem sW (f : Box → Int) (x : Box) : ∀ l : List Box,cv f (g7 x l) = f x + cv f l
 | []=>rfl
 | b :: r=>by
  have ih:=sW f x r
  simp only [g7]
  split<;>simp only [cv,ih]
  omega
theorem sX (i : Int) {t : Int} : ∀ {l : List Box},rises l → cv (bc i) (fI t l) = cv (bc i) l - cO (fun s=>ac s i) (bu l t)
 | [],_=>rfl
 | b :: r,h=>by
  have ih:=sX i (t:=t) h.2
  simp only [fI,bu]
  by_cases h1 : b.cell < t
  ·rw [if_pos h1,if_neg (show ¬ b.cell = t by omega)]
   simp only [cv,ih];omega
  ·rw [if_neg h1]
   by_cases h2 : b.cell = t
   ·rw [if_pos h2,if_pos h2];simp only [cv,cO,bc];omega
   ·rw [if_neg h2,if_neg h2,ep.2 fun x hx=>by have:=h.1 x hx;omega]
    simp only [cO];omega
theorem zt (i : Int) : ac eo i = 0:=by
 have : ∀ n : Nat,ac (List.replicate n ⟨0,0⟩) i = 0:=by
  intro n
  induction n with
  | zero=>rfl
  | succ n ih=>rw [List.replicate_succ];simp only [ac,ih,cnt];split<;>rfl
 exact this 6
theorem Dv {l : List aa} (h : ij l = false) (i : Int) : ac l i = 0:=by
 unfold ij at h
 rw [List.any_eq_false] at h
 induction l with
 | nil=>rfl
 | cons s r ih =>
  have hs:=h s (by simp)
  simp only [eE,decide_eq_true_eq] at hs
  simp only [ac,cnt]
  rw [ih fun x hx=>h x (by simp [hx])]
  split<;>omega
theorem KF {c : Chunk} (h : ai c = true) {t j : Int} (hf : jr c t = false) (i : Int) : cc i (p8 c t j) = cc i c:=by
 have hr:=(cS h).up
 have h0 : cO (fun s=>ac s i) (bu c.boxes t) = 0:=by
  unfold jr at hf
  cases hg : bu c.boxes t with
  | none=>rfl
  | some s=>rw [hg] at hf;exact Dv hf i
 have hd:=sX i (t:=t) hr
 show ac (c.heaps.map (·.slot)) i + cv (bc i) (fj c.boxes t j) = _
 rw [rj hr]
 unfold cc
 split
 ·rw [sW,show bc i ⟨t,eo⟩ = ac eo i from rfl,zt];omega
 ·omega
theorem FA {c : Chunk} (h : ai c = true) {t j : Int} (ht : 0 ≤ t ∧ t < 64) (i : Int) : cc i (cC c t j).1 = cc i c:=by
 rw [lu h ht.1 ht.2]
 split
 ·rfl
 ·split
  ·rfl
  ·rename_i hf
   exact KF h (by simpa using hf) i
theorem FB {c : Chunk} (h : ai c = true) {t : Int} {l s : List aa} (hg : bu c.boxes t = some s) (i : Int) : cc i (vj c t l) = cc i c + ac l i - ac s i:=by
 have hr:=(cS h).up
 have hth : b_ c.boxes t = true:=by rw [mW hr,hg];rfl
 have hd:=sX i (t:=t) hr
 rw [hg] at hd
 show ac (c.heaps.map (·.slot)) i + cv (bc i) (nv c.boxes t l) = _
 unfold nv
 rw [t_ ⟨t,l⟩ c.boxes hr hth,sW]
 show _ + (ac l i + cv (bc i) (fI t c.boxes)) = _
 unfold cc
 simp only [cO] at hd
 omega
theorem t6 (s : aa) (i : Int) : ac [s] i = cnt i s:=by simp [ac]
theorem B_ {c : Chunk} (t : Int) (s : aa) (h : (b9 c t s).2 = 0) (i : Int) : cc i (b9 c t s).1 = cc i c + cnt i s:=by
 unfold b9 at h ⊢
 split at h
 ·simp at h
 ·rename_i h1
  split at h
  ·simp at h
  ·rename_i h2
   split at h
   ·simp at h
   ·rename_i h3
    split at h
    ·simp at h
    ·rename_i h4
     rw [if_neg h1,if_neg h2,if_neg h3,if_neg h4]
     unfold cc
     simp only [List.map_append,List.map_cons,List.map_nil,cu,t6]
     omega
theorem t7 (t : Int) (i : Int) : ∀ l : List du,ac ((de t l).map (·.slot)) i + ac (c7 t l) i = ac (l.map (·.slot)) i
 | []=>rfl
 | x :: r=>by
  have ih:=t7 t i r
  unfold de c7 at ih ⊢
  by_cases hx : x.cell = t
  ·rw [List.filter_cons_of_neg (by simp [miss,hx]),List.filter_cons_of_pos (by simp [hit,hx])]
   simp only [List.map_cons,ac];omega
  ·rw [List.filter_cons_of_pos (by simp [miss,hx]),List.filter_cons_of_neg (by simp [hit,hx])]
   simp only [List.map_cons,ac];omega
theorem Jp {c : Chunk} (h : ai c = true) (t : Int) (i : Int) : cc i (cE c t).1 + ac (cE c t).2 i = cc i c:=by
 unfold cE
 rw [if_pos h]
 have:=t7 t i c.heaps
 unfold cc
 dsimp only
 omega
theorem HE {seed : Int} {k : Chunk} (hk : ai k = true) (h : dy seed k = true) : k = eh seed k.x k.y:=by
 unfold dy eqI at h
 rw [Bool.and_eq_true,decide_eq_true_eq,decide_eq_true_eq] at h
 have hh : k.heaps = []:=List.length_eq_zero_iff.1 (by omega)
 have hb : k.boxes = []:=by
  refine List.eq_nil_iff_forall_not_mem.2 fun b hb=>?_
  have hf:=cS hk
  have h1:=hf.bags b hb
  have hl:=eu hk
  have h2:=(hf.chest b.cell.toNat (by omega)).2 (by
   rw [show ((0 : Nat) : Int) + (b.cell.toNat : Nat) = b.cell by omega,kc hf.up hb];rfl)
  rw [h.2,List.getD_eq_getElem?_getD] at h2
  have hlt : b.cell.toNat < (gl seed k.x k.y 64).length:=by rw [dL];omega
  rw [List.getElem?_eq_getElem hlt] at h2
  have hm : (gl seed k.x k.y 64)[b.cell.toNat] ∈ gl seed k.x k.y 64:=List.getElem_mem hlt
  unfold gl at hm
  rw [List.mem_map] at hm
  obtain ⟨j,_,hj⟩:=hm
  have h3:=(sT seed (k.x * 8 + (j % 8 : Nat)) (k.y * 8 + (j / 8 : Nat))).2
  rw [hj] at h3
  exact h3 h2
 obtain ⟨x,y,cs,hs,bs⟩:=k
 dsimp only at hh hb h
 rw [hh,hb,h.2]
 rfl
theorem FC {w : Wld} {k : Chunk} (hR : RW w) (hk : ai k = true) (hm : max k.x k.y < w.size) : (ba w k.x k.y).1 = match aH aI w.chunks (aI k) with|some c=>c|none=>eh w.seed k.x k.y:=by
 have h:=cT hk
 rw [(i9 hR (x:=k.x) (y:=k.y) (by omega) (by omega)).1]
 rfl
theorem KG {w : Wld} {k : Chunk} (hR : RW w) (hk : ai k = true) (hm : max k.x k.y < w.size) (i : Int) :
  tw i (c_ w (d5 w.seed w.chunks k)) = tw i w + cc i k - cc i (ba w k.x k.y).1:=by
 have hc:=FC hR hk hm
 have hd:=sV (cc i) (t:=aI k) hR.rc
 have h1 : cO (cc i) (aH aI w.chunks (aI k)) = cc i (ba w k.x k.y).1:=by
  rw [hc]
  cases aH aI w.chunks (aI k)<;>rfl
 show cv (pc i) w.players + cv (cc i) (d5 w.seed w.chunks k) = _
 unfold d5 tw
 by_cases hp : dy w.seed k = true
 ·rw [if_pos hp]
  have h2 : cc i k = 0:=by rw [HE hk hp];rfl
  omega
 ·rw [if_neg hp,sU]
  omega
theorem zu {w : Wld} {p : Player} (hR : RW w) (i : Int) : tw i (cR w (ck w.players p)) = tw i w + pc i p - cO (pc i) (aH pid w.players p.id):=by
 have hd:=sV (pc i) (t:=p.id) hR.rp
 show cv (pc i) (ck w.players p) + cv (cc i) w.chunks = _
 unfold ck tw
 rw [sU]
 omega
theorem Jq {w : Wld} {p : Player} (h : (am w p).2 = 0) (i : Int) : tw i (am w p).1 = tw i w + pc i p - cO (pc i) (aH pid w.players p.id):=by
 obtain ⟨h1,h2⟩:=mo h
 rw [h2]
 exact zu h1.1 i
theorem Jr {w : Wld} {k : Chunk} {p : Player} (h : (cV w k p).2 = 0) (i : Int) :
  tw i (cV w k p).1 = tw i w + cc i k - cc i (ba w k.x k.y).1 + pc i p - cO (pc i) (aH pid w.players p.id):=by
 obtain ⟨h1,h2,h3,h4,h5⟩:=v8 h
 rw [h5]
 refine (zu (w:=c_ w (d5 w.seed w.chunks k)) (p:=p) h4.1 i).trans ?_
 rw [KG h1 h2 h3]
 rfl
open Go Go.RowKit Eng
theorem ln (i : Int) : ∀ l : List aa,ac l.reverse i = ac l i
 | []=>rfl
 | s :: r=>by rw [List.reverse_cons,cu,ln i r,t6];simp only [ac];omega
theorem oJ (i : Int) : ∀ (l : List aa) (n : Int),(en i l n).length = l.length
 | [],_=>rfl
 | s :: r,n=>by
  simp only [en]
  split
  ·rfl
  ·split<;>simp only [List.length_cons,oJ i r]
theorem HF {s : aa} {m : Int} (h : bC s = false) (h0 : 0 ≤ m) (h1 : m ≤ s.n) : bC (d7 s m) = false:=by
 have hs:=bM.1 h
 unfold d7
 split
 ·exact bM.2 (.inl ⟨rfl,rfl⟩)
 ·refine bM.2 ?_
  rcases hs with hs|hs
  ·dsimp only;omega
  ·right;dsimp only;omega
theorem oK (i : Int) : ∀ (l : List aa) (n : Int),(∀ s ∈ l,bC s = false) → ∀ s ∈ en i l n,bC s = false
 | [],_,_=>by simp [en]
 | a :: r,n,h=>by
  simp only [en]
  split
  ·exact h
  ·rename_i hn
   have ha:=h a (by simp)
   have ha2:=bM.1 ha
   have hst:=(dG a.item).1
   have ih:=fun m=>oK i r m fun s hs=>h s (by simp [hs])
   split
   ·intro s hs
    rcases List.mem_cons.1 hs with rfl|hs
    ·exact HF ha (by omega) (by omega)
    ·exact ih _ s hs
   ·intro s hs
    rcases List.mem_cons.1 hs with rfl|hs
    ·exact ha
    ·exact ih _ s hs
theorem HG {s : aa} {m : Int} (h0 : 0 ≤ m) (h1 : m ≤ s.n) (k : Int) : cnt k (d7 s m) + sel k s.item m = cnt k s:=by
 unfold d7 cnt sel
 by_cases hk : ¬ k = 0 ∧ s.item = k
 ·rw [if_pos hk,if_pos hk]
  by_cases hm : s.n - m = 0
  ·rw [if_pos hm]
   rw [if_neg (fun h=>h.1 h.2.symm)]
   omega
  ·rw [if_neg hm,if_pos (by dsimp only;exact hk)]
   dsimp only;omega
 ·rw [if_neg hk,if_neg hk]
  by_cases hm : s.n - m = 0
  ·rw [if_pos hm,if_neg (fun h=>h.1 h.2.symm)];omega
  ·rw [if_neg hm,if_neg (by dsimp only;exact hk)];omega
theorem kw (i : Int) : ∀ l : List aa,0 ≤ ac l i
 | []=>Int.le_refl _
 | s :: r=>by
  have ih:=kw i r
  have : 0 ≤ cnt i s:=by unfold cnt;split<;>omega
  simp only [ac];omega
theorem mr {i : Int} (hi : ¬ i = 0) : ∀ (l : List aa) (n : Int),(∀ s ∈ l,0 ≤ s.n) → 0 ≤ n → n ≤ ac l i → ∀ k,ac (en i l n) k + sel k i n = ac l k
 | [],n,_,h0,h1,k=>by
  have : n = 0:=by simp only [ac] at h1;omega
  subst this
  simp [en,ac,iN]
 | a :: r,n,h,h0,h1,k=>by
  simp only [en]
  by_cases hn : n ≤ 0
  ·rw [if_pos hn,show n = 0 by omega,iN];omega
  ·rw [if_neg hn]
   have ha:=h a (by simp)
   simp only [ac] at h1
   by_cases hai : a.item = i
   ·rw [if_pos hai]
    have hc : cnt i a = a.n:=by unfold cnt;rw [if_pos ⟨hi,hai⟩];omega
    rw [hc] at h1
    have hnn:=kw i r
    have ih:=mr hi r (n - min a.n n) (fun s hs=>h s (by simp [hs])) (by omega) (by omega) k
    have hl:=HG (s:=a) (m:=min a.n n) (by omega) (by omega) k
    rw [hai] at hl
    simp only [ac]
    have hs : sel k i n = sel k i (min a.n n) + sel k i (n - min a.n n):=by unfold sel;split<;>omega
    omega
   ·rw [if_neg hai]
    have hc : cnt i a = 0:=by unfold cnt;rw [if_neg (fun h=>hai h.2)]
    rw [hc] at h1
    have ih:=mr hi r n (fun s hs=>h s (by simp [hs])) h0 (by omega) k
    simp only [ac]
    omega
theorem AM {l : List aa} {i n : Int} (hi : ¬ i = 0) (h : (a_ l i n).2 = 0) : an l = true ∧ 1 ≤ n ∧ n ≤ ac l i ∧ (a_ l i n).1 = gX l i n:=by
 unfold a_ at h ⊢
 split at h
 ·simp at h
 ·rename_i h1
  split at h
  ·simp at h
  ·rename_i h2
   split at h
   ·simp at h
   ·rename_i h3
    exact ⟨by simpa using h1,by omega,Int.not_lt.1 h3,by rw [if_neg h1,if_neg h2,if_neg h3]⟩
theorem jp {l : List aa} {i n : Int} (hi : ¬ i = 0) (hb : an l = true) (hn : 0 ≤ n) (hc : n ≤ ac l i) :
  an (gX l i n) = true ∧ (gX l i n).length = l.length ∧ ∀ k,ac (gX l i n) k + sel k i n = ac l k:=by
 have hb2:=dn.1 hb
 have hsm:=bU hb
 unfold gX
 refine ⟨dn.2 fun s hs=>?_,by rw [List.length_reverse,oJ,List.length_reverse],fun k=>?_⟩
 ·rw [List.mem_reverse] at hs
  exact oK i _ n (fun x hx=>hb2 x (List.mem_reverse.1 hx)) s hs
 ·rw [ln,← ln k l]
  exact mr hi _ n (fun s hs=>(hsm s (List.mem_reverse.1 hs)).1) hn (by rw [ln];exact hc) k
theorem oL (l : List aa) (i n : Int) : (a_ l i n).1.length = l.length ∧ (an l = true → an (a_ l i n).1 = true):=by
 unfold a_
 split
 ·exact ⟨rfl,id⟩
 ·rename_i h1
  split
  ·exact ⟨rfl,id⟩
  ·split
   ·exact ⟨rfl,id⟩
   ·have hb : an l = true:=by simpa using h1
    refine ⟨by unfold gX;rw [List.length_reverse,oJ,List.length_reverse],fun _=>dn.2 fun s hs=>?_⟩
    unfold gX at hs
    rw [List.mem_reverse] at hs
    exact oK i _ n (fun x hx=>dn.1 hb x (List.mem_reverse.1 hx)) s hs
def fX (wants : List aa) (k : Int) : Int:=cv (fun s : aa=>sel k s.item s.n) wants
theorem Dw {n : Int} {r : List aa × aa} (h : eW n = some r) : r ∈ sQ:=by
 unfold eW at h
 split at h
 ·cases h
 ·exact List.mem_of_getElem? h
theorem iY {n : Int} {wants : List aa} {makes : aa} (h : eW n = some (wants,makes)) :
  (∀ s ∈ wants,1 ≤ s.item ∧ s.item ≤ 12 ∧ 1 ≤ s.n ∧ s.n ≤ 16) ∧ 1 ≤ makes.item ∧ makes.item ≤ 12 ∧ 1 ≤ makes.n ∧ makes.n ≤ 16 ∧ wants.length ≤ 2 ∧ ∀ a b,wants = [a,b] → ¬ a.item = b.item:=by
 have hm:=Dw h
 simp only [sQ,List.mem_cons,List.not_mem_nil,or_false,Prod.mk.injEq] at hm
 rcases hm with ⟨rfl,rfl⟩|⟨rfl,rfl⟩|⟨rfl,rfl⟩|⟨rfl,rfl⟩|⟨rfl,rfl⟩|⟨rfl,rfl⟩|⟨rfl,rfl⟩
 all_goals
  refine ⟨by decide,by decide,by decide,by decide,by decide,by decide,fun a b hab=>?_⟩
  first
   | (simp at hab;done)
   | (simp only [List.cons.injEq,and_true] at hab;obtain ⟨rfl,rfl⟩:=hab;decide)
theorem HH {k i n : Int} (h : ¬ i = k) : sel k i n = 0:=by unfold sel;rw [if_neg (fun x=>h x.2)]
theorem Dx {l wants : List aa} (hb : an l = true) (hw : ∀ s ∈ wants,1 ≤ s.item ∧ s.item ≤ 12 ∧ 1 ≤ s.n ∧ s.n ≤ 16) (h2 : wants.length ≤ 2) (hne : ∀ a b,wants = [a,b] → ¬ a.item = b.item)
  (hc : wants.any (fun s=>decide (ac l s.item < s.n)) = false) :
  an (wants.foldl (fun b s=>(a_ b s.item s.n).1) l) = true ∧ (wants.foldl (fun b s=>(a_ b s.item s.n).1) l).length = l.length ∧
   ∀ k,ac (wants.foldl (fun b s=>(a_ b s.item s.n).1) l) k + fX wants k = ac l k:=by
 rw [List.any_eq_false] at hc
 have hgo : ∀ (b : List aa) (s : aa),an b = true → 1 ≤ s.n → s.n ≤ ac b s.item → (a_ b s.item s.n).1 = gX b s.item s.n:=by
  intro b s h1 h2 h3
  unfold a_
  rw [if_neg (by rw [h1];simp),if_neg (by omega),if_neg (by omega)]
 match wants,h2 with
 | [],_=>exact ⟨hb,rfl,fun k=>by simp [fX,cv]⟩
 | [a],_ =>
  have ha:=hw a (by simp)
  have hca:=hc a (by simp)
  simp only [decide_eq_true_eq] at hca
  obtain ⟨p1,p2,p3⟩:=jp (i:=a.item) (n:=a.n) (by omega) hb (by omega) (by omega)
  simp only [List.foldl_cons,List.foldl_nil]
  rw [hgo l a hb (by omega) (by omega)]
  refine ⟨p1,p2,fun k=>?_⟩
  have:=p3 k
  simp only [fX,cv];omega
 | [a,b],_ =>
  have ha:=hw a (by simp)
  have hb':=hw b (by simp)
  have hca:=hc a (by simp)
  have hcb:=hc b (by simp)
  simp only [decide_eq_true_eq] at hca hcb
  have hab:=hne a b rfl
  obtain ⟨p1,p2,p3⟩:=jp (i:=a.item) (n:=a.n) (by omega) hb (by omega) (by omega)
  simp only [List.foldl_cons,List.foldl_nil]
  rw [hgo l a hb (by omega) (by omega)]
  have e:=p3 b.item
  rw [HH hab] at e
  obtain ⟨q1,q2,q3⟩:=jp (i:=b.item) (n:=b.n) (by omega) p1 (by omega) (by omega)
  rw [hgo _ b p1 (by omega) (by omega)]
  refine ⟨q1,by omega,fun k=>?_⟩
  have:=p3 k
  have:=q3 k
  simp only [fX,cv];omega
theorem t8 {l : List aa} {n : Int} (h : (cF l n).2 = 0) : ∃ wants makes,eW n = some (wants,makes) ∧ an l = true ∧ an (cF l n).1 = true ∧ (cF l n).1.length = l.length ∧
  ∀ k,ac (cF l n).1 k + fX wants k = ac l k + sel k makes.item makes.n:=by
 unfold cF at h ⊢
 split at h
 ·simp at h
 ·rename_i h1
  have hb : an l = true:=by simpa using h1
  rw [if_neg h1]
  cases hr : eW n with
  | none=>rw [hr] at h;simp at h
  | some r =>
   obtain ⟨wants,makes⟩:=r
   rw [hr] at h
   dsimp only at h ⊢
   obtain ⟨r1,r2,r3,r4,r5,r6,r7⟩:=iY hr
   split at h
   ·simp at h
   ·rename_i h2
    rw [if_neg h2]
    split at h
    ·simp at h
    ·rename_i h3
     rw [if_neg h3]
     obtain ⟨p1,p2,p3⟩:=Dx hb r1 r6 r7 (by simpa using h2)
     refine ⟨wants,makes,rfl,hb,fB p1,by rw [da];exact p2,fun k=>?_⟩
     have hl:=eT (l:=wants.foldl (fun b s=>(a_ b s.item s.n).1) l) (i:=makes.item) (n:=makes.n) (by omega)
     have hpc:=il (l:=wants.foldl (fun b s=>(a_ b s.item s.n).1) l) (i:=makes.item) (n:=makes.n) (by omega) k
     rw [show (bk (wants.foldl (fun b s=>(a_ b s.item s.n).1) l) makes.item makes.n).2 = 0 by omega,iN] at hpc
     have:=p3 k
     dsimp only
     omega
theorem we (l : List aa) (n : Int) (hb : an l = true) : (cF l n).1.length = l.length ∧ an (cF l n).1 = true:=by
 by_cases h : (cF l n).2 = 0
 ·obtain ⟨_,_,_,_,h1,h2,_⟩:=t8 h
  exact ⟨h2,h1⟩
 ·have e : (cF l n).1 = l:=by
   unfold cF at h ⊢
   split
   ·rfl
   ·rename_i h1
    rw [if_neg h1] at h
    cases hr : eW n with
    | none=>rfl
    | some r =>
     obtain ⟨wants,makes⟩:=r
     rw [hr] at h
     dsimp only at h ⊢
     split
     ·rfl
     ·rename_i h2
      rw [if_neg h2] at h
      split
      ·rfl
      ·rename_i h3
       rw [if_neg h3] at h
       exact absurd rfl h
  rw [e];exact ⟨rfl,hb⟩
open Go Go.RowKit Eng
theorem rg (c : Chunk) (t i : Int) : (cC c t i).1.x = c.x ∧ (cC c t i).1.y = c.y:=by unfold cC;(repeat' split)<;>exact ⟨rfl,rfl⟩
theorem sY (c : Chunk) (t : Int) (s : aa) : (b9 c t s).1.x = c.x ∧ (b9 c t s).1.y = c.y:=by unfold b9;(repeat' split)<;>exact ⟨rfl,rfl⟩
theorem oM (c : Chunk) (t : Int) (l : List aa) : (ct c t l).1.x = c.x ∧ (ct c t l).1.y = c.y:=by unfold ct;(repeat' split)<;>exact ⟨rfl,rfl⟩
theorem zv (c : Chunk) (t : Int) : (cE c t).1.x = c.x ∧ (cE c t).1.y = c.y:=by unfold cE;split<;>exact ⟨rfl,rfl⟩
theorem rh {k i n : Int} (h : 0 ≤ n) : cnt k ⟨i,n⟩ = sel k i n:=by unfold cnt sel;split<;>first|rfl|(dsimp only;omega)
theorem mt {w : Wld} {p' p : Player} (h : (am w p').2 = 0) (hg : aH pid w.players p'.id = some p) (k : Int) : tw k (am w p').1 = tw k w + pc k p' - pc k p:=by
 rw [Jq h,hg];rfl
theorem iZ {w : Wld} {K K0 : Chunk} {p' p : Player} (h : (cV w K p').2 = 0) (hg : aH pid w.players p'.id = some p) (hc : (ba w K.x K.y).1 = K0) (k : Int) :
  tw k (cV w K p').1 = tw k w + cc k K - cc k K0 + pc k p' - pc k p:=by
 rw [Jr h,hg,hc];rfl
structure bH (w : Wld) (p : Player) : Prop where
 rw : RW w
 get : aH pid w.players p.id = some p
theorem bH.sound {w : Wld} {p : Player} (h : bH w p) : a7 p = true ∧ av w.size p.x p.y = true:=h.rw.players p (gq h.get).1
theorem bH.bag {w : Wld} {p : Player} (h : bH w p) : p.bag.length = 8 ∧ an p.bag = true:=by
 obtain ⟨_,_,h3,h4,_⟩:=cm h.sound.1
 exact ⟨by omega,h4⟩
theorem ri {w : Wld} (hR : RW w) {id : Int} (h : (ag w id).2 = true) : bH w (ag w id).1 ∧ (ag w id).1.id = id:=by
 have hr:=aK.2 hR
 have e : ag w id = match aH pid w.players id with|some p=>(p,true)|none=>(kf,false):=by
  unfold ag;rw [if_neg (by rw [hr];simp)];rfl
 cases hg : aH pid w.players id with
 | none=>rw [hg] at e;rw [e] at h;simp at h
 | some p =>
  rw [hg] at e
  rw [e]
  have hm:=gq hg
  have hid : p.id = id:=hm.2
  exact ⟨⟨hR,by rw [hid];exact hg⟩,hid⟩
theorem jQ {w : Wld} {x y : Int} (hR : RW w) (h : av w.size x y = true) {K : Chunk} (h1 : K.x = (aA w x y).x) (h2 : K.y = (aA w x y).y) : (ba w K.x K.y).1 = aA w x y:=by
 obtain ⟨_,h3,h4⟩:=cd hR h
 rw [h1,h2,h3,h4];rfl
theorem zw {w : Wld} {x y : Int} (hR : RW w) (h : av w.size x y = true) : atW w x y = (bQ (aA w x y) (aJ x y),true):=FU hR ((a6 hR).1 h)
theorem Dy {w : Wld} {p : Player} {c : Cmd} (hp : bH w p) (h : (fx w p c).2 = 0) (k : Int) : tw k (fx w p c).1 = tw k w:=by
 unfold fx at h ⊢
 split at h
 ·simp at h
 ·rename_i h1
  split at h
  ·simp at h
  ·rename_i h2
   rw [if_neg h1,if_neg h2,mt h hp.get]
   show tw k w + pc k p - pc k p = _
   omega
theorem AN {w : Wld} {p : Player} {c : Cmd} (hp : bH w p) (h : (dH w p c).2 = 0) (k : Int) : tw k (dH w p c).1 = tw k w + sel k (bL (atW w c.a c.b).1) 1:=by
 unfold dH at h ⊢
 split at h
 ·rename_i h1;exact absurd h h1
 ·rename_i h1
  have hin:=(g6 (Decidable.not_not.1 h1)).1
  have hK:=(cd hp.rw hin).1
  have hI:=c9 c.a c.b
  rw [if_neg h1]
  split at h
  ·simp at h
  ·rename_i h2
   rw [if_neg h2]
   split at h
   ·rename_i h3;exact absurd h h3
   ·rename_i h3
    rw [if_neg h3]
    split at h
    ·simp at h
    ·rename_i h4
     rw [if_neg h4]
     have hxy:=rg (aA w c.a c.b) (aJ c.a c.b) 0
     have hl:=eT (l:=p.bag) (i:=bL (bQ (aA w c.a c.b) (aJ c.a c.b))) (n:=1) (by omega)
     have hpc:=il (l:=p.bag) (i:=bL (bQ (aA w c.a c.b) (aJ c.a c.b))) (n:=1) (by omega) k
     rw [iZ h hp.get (jQ hp.rw hin hxy.1 hxy.2),FA hK hI,zw hp.rw hin]
     rw [show (bk p.bag (bL (bQ (aA w c.a c.b) (aJ c.a c.b))) 1).2 = 0 by omega,iN] at hpc
     unfold pc
     dsimp only
     omega
theorem AO {w : Wld} {p : Player} {c : Cmd} (hp : bH w p) (h : (dI w p c).2 = 0) (k : Int) : tw k (dI w p c).1 = tw k w - sel k (elt .slot p.bag c.c.toNat).item 1:=by
 unfold dI at h ⊢
 split at h
 ·rename_i h1;exact absurd h h1
 ·rename_i h1
  have hin:=(g6 (Decidable.not_not.1 h1)).1
  have hK:=(cd hp.rw hin).1
  have hI:=c9 c.a c.b
  rw [if_neg h1]
  split at h
  ·rename_i h2;exact absurd h h2
  ·rename_i h2
   obtain ⟨n1,n2,n3,n4,n5,n6,n7,n8⟩:=fm (Decidable.not_not.1 h2)
   rw [if_neg h2]
   split at h
   ·simp at h
   ·rename_i h3
    rw [if_neg h3]
    split at h
    ·simp at h
    ·rename_i h4
     rw [if_neg h4]
     split at h
     ·rename_i h5;exact absurd h h5
     ·rename_i h5
      rw [if_neg h5]
      have hxy:=rg (aA w c.a c.b) (aJ c.a c.b) (aj p.bag c.c 1).2.1.item
      rw [iZ h hp.get (jQ hp.rw hin hxy.1 hxy.2),FA hK hI,n8]
      have hc1:=lw n4 (a:=c.c.toNat) (by omega) n2 n7 k
      unfold pc
      dsimp only
      omega
theorem Dz {w : Wld} {p : Player} {c : Cmd} (hp : bH w p) (h : (fy w p c).2 = 0) (k : Int) : tw k (fy w p c).1 = tw k w:=by
 have hin:=hp.sound.2
 unfold fy at h ⊢
 split at h
 ·rename_i h1;exact absurd h h1
 ·rename_i h1
  obtain ⟨n1,n2,n3,n4,n5,n6,n7,n8⟩:=fm (Decidable.not_not.1 h1)
  rw [if_neg h1]
  split at h
  ·rename_i h2;exact absurd h h2
  ·rename_i h2
   rw [if_neg h2]
   have hxy:=sY (aA w p.x p.y) (aJ p.x p.y) (aj p.bag c.c c.n).2.1
   rw [iZ h hp.get (jQ hp.rw hin hxy.1 hxy.2),B_ _ _ (Decidable.not_not.1 h2),n8]
   have hc1:=lw n4 (a:=c.c.toNat) (by omega) n2 n7 k
   rw [rh (by omega)]
   unfold pc
   dsimp only
   omega
theorem gu (cell : Int) (hc : 0 ≤ cell ∧ cell < 64) : ∀ (l : List aa) (K : Chunk) (b : List aa) (z : Bool),ai K = true → an b = true → (∀ s ∈ l,ei s = true) → K.heaps.length + l.length ≤ 32 →
  ai (bD cell l (K,b,z)).1 = true ∧ an (bD cell l (K,b,z)).2.1 = true ∧ (bD cell l (K,b,z)).2.1.length = b.length ∧ (bD cell l (K,b,z)).1.x = K.x ∧ (bD cell l (K,b,z)).1.y = K.y ∧
  ∀ k,cc k (bD cell l (K,b,z)).1 + ac (bD cell l (K,b,z)).2.1 k = cc k K + ac b k + ac l k
 | [],K,b,z,hK,hb,_,_=>⟨hK,hb,rfl,rfl,rfl,fun k=>by simp [bD,ac]⟩
 | s :: r,K,b,z,hK,hb,hl,h32=>by
  have hs:=gZ (hl s (by simp))
  have hsb:=hl s (by simp)
  simp only [ei,Bool.and_eq_true,decide_eq_true_eq] at hsb
  have hleft:=eT (l:=b) (i:=s.item) (n:=s.n) (by omega)
  have hpc:=il (l:=b) (i:=s.item) (n:=s.n) (by omega)
  have hb2:=fB (i:=s.item) (n:=s.n) hb
  have hbl:=da b s.item s.n
  simp only [List.length_cons] at h32
  simp only [bD]
  generalize bk b s.item s.n = P at *
  obtain ⟨P1,P2⟩:=P
  dsimp only at *
  have hsel : ∀ k,cnt k s = sel k s.item s.n:=fun k=>rh (i:=s.item) (by omega)
  by_cases h0 : 0 < P2
  ·rw [if_pos h0]
   have hxy:=sY K cell ⟨s.item,P2⟩
   have hd:=oF hK (t:=cell) (s:=⟨s.item,P2⟩) hc
   have hok : (b9 K cell ⟨s.item,P2⟩) = ({ K with heaps:=K.heaps ++ [⟨cell,⟨s.item,P2⟩⟩] },0):=by
    unfold b9
    rw [if_neg (by rw [hK];simp),if_neg (by omega),if_neg (by unfold ei;rw [Bool.and_eq_false_iff,decide_eq_false_iff_not,decide_eq_false_iff_not];dsimp only;omega),if_neg (by omega)]
   have hcc:=B_ (c:=K) cell ⟨s.item,P2⟩ (by rw [hok])
   obtain ⟨i1,i2,i3,i4,i5,i6⟩:=gu cell hc r (b9 K cell ⟨s.item,P2⟩).1 P1 (z || decide (P2 < s.n)) hd hb2 (fun x hx=>hl x (by simp [hx])) (by rw [hok];simp;omega)
   refine ⟨i1,i2,by omega,by rw [i4,hxy.1],by rw [i5,hxy.2],fun k=>?_⟩
   rw [i6 k,hcc k,rh (by omega)]
   have:=hpc k
   simp only [ac,hsel]
   omega
  ·rw [if_neg h0]
   obtain ⟨i1,i2,i3,i4,i5,i6⟩:=gu cell hc r K P1 (z || decide (P2 < s.n)) hK hb2 (fun x hx=>hl x (by simp [hx])) (by omega)
   refine ⟨i1,i2,by omega,i4,i5,fun k=>?_⟩
   rw [i6 k]
   have:=hpc k
   rw [show P2 = 0 by omega,iN] at this
   simp only [ac,hsel]
   omega
theorem wg (t : Int) : ∀ l : List du,(de t l).length + (c7 t l).length = l.length
 | []=>rfl
 | x :: r=>by
  have ih:=wg t r
  unfold de c7 at ih ⊢
  by_cases hx : x.cell = t
  ·rw [List.filter_cons_of_neg (by simp [miss,hx]),List.filter_cons_of_pos (by simp [hit,hx])]
   simp only [List.map_cons,List.length_cons];omega
  ·rw [List.filter_cons_of_pos (by simp [miss,hx]),List.filter_cons_of_neg (by simp [hit,hx])]
   simp only [List.length_cons];omega
theorem oN {c : Chunk} (h : ai c = true) (t : Int) : (cE c t).1.heaps.length + (cE c t).2.length ≤ 32:=by
 have h1:=wg t c.heaps
 have h2:=fJ h
 unfold cE
 rw [if_pos h]
 dsimp only
 omega
theorem AP {w : Wld} {p : Player} (hp : bH w p) (h : (eC w p).2 = 0) (k : Int) : tw k (eC w p).1 = tw k w:=by
 have hin:=hp.sound.2
 have hK:=(cd hp.rw hin).1
 have hI:=c9 p.x p.y
 have hL:=oG hK (aJ p.x p.y)
 have hh:=oN hK (aJ p.x p.y)
 have hcl:=Jp hK (aJ p.x p.y) k
 have hxy:=zv (aA w p.x p.y) (aJ p.x p.y)
 unfold eC at h ⊢
 dsimp only at h ⊢
 obtain ⟨i1,i2,i3,i4,i5,i6⟩:=gu (aJ p.x p.y) hI (cE (aA w p.x p.y) (aJ p.x p.y)).2 (cE (aA w p.x p.y) (aJ p.x p.y)).1 p.bag false hL.1 hp.bag.2 hL.2 hh
 generalize bD (aJ p.x p.y) (cE (aA w p.x p.y) (aJ p.x p.y)).2 ((cE (aA w p.x p.y) (aJ p.x p.y)).1,p.bag,false) = R at *
 split at h
 ·simp at h
 ·rename_i h1
  rw [if_neg h1]
  split at h
  ·simp at h
  ·rename_i h2
   rw [if_neg h2,iZ h hp.get (jQ hp.rw hin (by rw [i4,hxy.1]) (by rw [i5,hxy.2]))]
   have:=i6 k
   unfold pc
   dsimp only
   omega
theorem pX {l m : List aa} {a n : Int} (h : (cA l m a n).2.2 = 0) (hm : an m = true) : (cA l m a n).1.length = l.length ∧ (cA l m a n).2.1.length = m.length ∧ an (cA l m a n).1 = true ∧ an (cA l m a n).2.1 = true ∧
  ∀ k,ac (cA l m a n).1 k + ac (cA l m a n).2.1 k = ac l k + ac m k:=by
 unfold cA at h ⊢
 split at h
 ·rename_i h1;exact absurd h h1
 ·rename_i h1
  obtain ⟨n1,n2,n3,n4,n5,n6,n7,n8⟩:=fm (Decidable.not_not.1 h1)
  rw [if_neg h1]
  split at h
  ·simp at h
  ·rename_i h2
   rw [if_neg h2]
   rw [n8] at h2 ⊢
   dsimp only at h2 ⊢
   have hl:=eT (l:=m) (i:=(elt .slot l a.toNat).item) (n:=n) (by omega)
   refine ⟨List.length_set ..,da _ _ _,im n4 (by omega) n2 n7,fB hm,fun k=>?_⟩
   have hc1:=lw n4 (a:=a.toNat) (by omega) n2 n7 k
   have hpc:=il (l:=m) (i:=(elt .slot l a.toNat).item) (n:=n) (by omega) k
   rw [show (bk m (elt .slot l a.toNat).item n).2 = 0 by omega,iN] at hpc
   omega
theorem wh {c : Chunk} (h : ai c = true) {t : Int} {l : List aa} (hf : (ct c t l).2 = 0) : (ct c t l).1 = vj c t l:=by
 rw [kd h] at hf ⊢
 split at hf
 ·simp at hf
 ·rename_i h1
  rw [if_neg h1]
  split at hf
  ·simp at hf
  ·rename_i h2
   rw [if_neg h2]
theorem AQ {w : Wld} {p : Player} {c : Cmd} (hp : bH w p) (h : (ee w p c).2 = 0) (k : Int) : tw k (ee w p c).1 = tw k w:=by
 unfold ee at h ⊢
 split at h
 ·rename_i h1;exact absurd h h1
 ·rename_i h1
  have hin:=(g6 (Decidable.not_not.1 h1)).1
  have hK:=(cd hp.rw hin).1
  have hI:=c9 c.a c.b
  rw [if_neg h1]
  split at h
  ·simp at h
  ·rename_i h2
   have hB : (c8 (aA w c.a c.b) (aJ c.a c.b)).2 = true:=by simpa using h2
   have hbx:=pU hK hB
   have hg : bu (aA w c.a c.b).boxes (aJ c.a c.b) = some (c8 (aA w c.a c.b) (aJ c.a c.b)).1:=by
    rw [g8 hK] at hB ⊢
    dsimp only at hB ⊢
    obtain ⟨s,hs⟩:=Option.isSome_iff_exists.1 hB
    rw [hs];rfl
   rw [if_neg h2]
   generalize (c8 (aA w c.a c.b) (aJ c.a c.b)).1 = X at *
   by_cases hd : c.dol = 7
   ·simp only [if_pos hd] at h ⊢
    split at h
    ·rename_i h3;exact absurd h h3
    ·rename_i h3
     obtain ⟨_,_,_,m4,m5⟩:=pX (Decidable.not_not.1 h3) hbx.2
     rw [if_neg h3]
     split at h
     ·rename_i h4;exact absurd h h4
     ·rename_i h4
      have hxy:=oM (aA w c.a c.b) (aJ c.a c.b) (cA p.bag X c.c c.n).2.1
      rw [if_neg h4,iZ h hp.get (jQ hp.rw hin hxy.1 hxy.2),wh hK (Decidable.not_not.1 h4),FB hK hg]
      have:=m5 k
      unfold pc
      dsimp only
      omega
   ·simp only [if_neg hd] at h ⊢
    split at h
    ·rename_i h3;exact absurd h h3
    ·rename_i h3
     obtain ⟨_,_,m3,_,m5⟩:=pX (Decidable.not_not.1 h3) hp.bag.2
     rw [if_neg h3]
     split at h
     ·rename_i h4;exact absurd h h4
     ·rename_i h4
      have hxy:=oM (aA w c.a c.b) (aJ c.a c.b) (cA X p.bag c.c c.n).1
      rw [if_neg h4,iZ h hp.get (jQ hp.rw hin hxy.1 hxy.2),wh hK (Decidable.not_not.1 h4),FB hK hg]
      have:=m5 k
      unfold pc
      dsimp only
      omega
theorem AR {w : Wld} {p : Player} {c : Cmd} (hp : bH w p) (h : (dJ w p c).2 = 0) (k : Int) :
  tw k (dJ w p c).1 = tw k w + (match eW c.c with|some (wants,makes)=>sel k makes.item makes.n - fX wants k|none=>0):=by
 unfold dJ at h ⊢
 split at h
 ·rename_i h1;exact absurd h h1
 ·rename_i h1
  obtain ⟨wants,makes,m1,_,_,_,m5⟩:=t8 (Decidable.not_not.1 h1)
  rw [if_neg h1,mt h hp.get,m1]
  have:=m5 k
  unfold pc
  show tw k w + (ac (cF p.bag c.c).1 k + ac p.offer k) - (ac p.bag k + ac p.offer k) = tw k w + (sel k makes.item makes.n - fX wants k)
  omega
theorem FD {w : Wld} {p : Player} (hp : bH w p) (h : (gI w p).2 = 0) (k : Int) : tw k (gI w p).1 = tw k w - sel k 11 1:=by
 unfold gI at h ⊢
 split at h
 ·rename_i h1;exact absurd h h1
 ·rename_i h1
  obtain ⟨m1,m2,m3,m4⟩:=AM (by decide) (Decidable.not_not.1 h1)
  obtain ⟨_,_,m7⟩:=jp (i:=11) (by decide) m1 (by omega) m3
  rw [if_neg h1,mt h hp.get,m4]
  have:=m7 k
  unfold pc
  dsimp only
  omega
theorem DA {w : Wld} {p q p' q' : Player} (hp : bH w p) (hq : bH w q) (hne : ¬ p.id = q.id) (h1 : p'.id = p.id) (h2 : q'.id = q.id) (hs : (am w q').2 = 0) (ht : (am (am w q').1 p').2 = 0) (k : Int) :
  tw k (am (am w q').1 p').1 = tw k w + pc k p' + pc k q' - pc k p - pc k q:=by
 obtain ⟨s1,s2⟩:=mo hs
 have hg : aH pid (am w q').1.players p'.id = some p:=by
  rw [s2]
  show aH pid (ck w.players q') p'.id = some p
  rw [eU hp.rw.rp,if_neg (by rw [h1,h2];exact hne),h1]
  exact hp.get
 rw [mt ht hg,mt hs (by rw [h2];exact hq.get)]
 omega
theorem Js {p q a b : Player} (h : o5 p q a b) (k : Int) : pc k a + pc k b = pc k p + pc k q:=by
 have:=h.sum k
 unfold rk at this
 unfold pc
 omega
theorem DB {w : Wld} {p : Player} {c : Cmd} (hp : bH w p) (h : (cz w p c).2 = 0) (k : Int) : tw k (cz w p c).1 = tw k w:=by
 have hpm:=eD hp.rw hp.sound.1 hp.sound.2
 unfold cz at h ⊢
 dsimp only at h ⊢
 generalize (if c.dol = 11 then c.a else p.wth) = wth at *
 split at h
 ·split at h<;>simp at h
 ·rename_i h1
  rw [if_neg h1]
  obtain ⟨hq,hqi⟩:=ri hp.rw (id:=wth) (by simpa using h1)
  generalize (ag w wth).1 = q at *
  have hqm:=eD hq.rw hq.sound.1 hq.sound.2
  split at h
  ·simp at h
  ·rename_i h2
   rw [if_neg h2]
   generalize hr : (if c.dol = 11 then cB p q c.c c.n else if c.dol = 12 then ((bo p q).1,(bo p q).2.1,(bo p q).2.2.2) else b6 p q) = r at *
   split at h
   ·rename_i h3;exact absurd h h3
   ·rename_i h3
    rw [if_neg h3]
    split at h
    ·rename_i h4;exact absurd h h4
    ·rename_i h4
     rw [if_neg h4]
     have hne : ¬ p.id = q.id:=by
      intro he
      have h5 : r.2.2 = 0:=Decidable.not_not.1 h3
      rw [← hr,oH he,oI he,rS he] at h5
      revert h5
      (repeat' split)<;>simp
     have hk : o5 p q r.1 r.2.1:=by
      rw [← hr]
      split
      ·exact uc hpm hqm hne _ _
      ·split
       ·exact (ud hpm hqm hne).1
       ·exact r_ hpm hqm
     rw [DA hp hq hne hk.ia hk.ib (Decidable.not_not.1 h4) h]
     have:=Js hk k
     omega
open Go Go.RowKit Eng
inductive Eff (w : Wld) (p : Player) (c : Cmd) : Wld → Prop where
 | stay (p' : Player) (hi : p'.id = p.id) (hs : fD w p') : Eff w p c (cR w (ck w.players p'))
 | keep (k : Chunk) (p' : Player) (x y : Int) (hi : p'.id = p.id) (hx : p'.x = p.x) (hy : p'.y = p.y) (hw : p'.wth = p.wth) (hk : ai k = true) (hm : max k.x k.y < w.size) (h1 : k.x = x / 8) (h2 : k.y = y / 8) (hn : d_ p x y = true)
  (hs : fD (c_ w (d5 w.seed w.chunks k)) p') : Eff w p c (cR (c_ w (d5 w.seed w.chunks k)) (ck w.players p'))
 | deal (p' q q' : Player) (hq : bH w q) (hi : p'.id = p.id) (hj : q'.id = q.id) (hne : ¬ p.id = q.id) (hx : p'.x = p.x) (hy : p'.y = p.y) (hqx : q'.x = q.x) (hqy : q'.y = q.y)
  (hw : q.id = p.wth ∨ (c.dol = 11 ∧ q.id = c.a)) (hkq : ¬ q.wth = p.id → q' = q) (hs : fD w q') (ht : fD (cR w (ck w.players q')) p') : Eff w p c (cR w (ck (ck w.players q') p'))
theorem HI (p q : Player) (a n : Int) : (cB p q a n).1.x = p.x ∧ (cB p q a n).1.y = p.y ∧ (cB p q a n).2.1.x = q.x ∧ (cB p q a n).2.1.y = q.y:=by
 unfold cB;(repeat' split)<;>exact ⟨rfl,rfl,rfl,rfl⟩
theorem HJ (p q : Player) : (bo p q).1.x = p.x ∧ (bo p q).1.y = p.y ∧ (bo p q).2.1.x = q.x ∧ (bo p q).2.1.y = q.y:=by
 unfold bo;(repeat' split)<;>exact ⟨rfl,rfl,rfl,rfl⟩
theorem FE (p q : Player) : (b6 p q).1.x = p.x ∧ (b6 p q).1.y = p.y ∧ (b6 p q).2.1.x = q.x ∧ (b6 p q).2.1.y = q.y:=by
 unfold b6;(repeat' split)<;>exact ⟨rfl,rfl,rfl,rfl⟩
open Go Go.RowKit Eng
theorem KH {a b x y : Int} (ha : 0 ≤ a ∧ a < 16) (hx : 0 ≤ x ∧ x < 16) (h : 16 * y + x = 16 * b + a) : x = a ∧ y = b:=by omega
theorem Eff.size {w n : Wld} {p : Player} {c : Cmd} (h : Eff w p c n) : n.size = w.size ∧ n.seed = w.seed ∧ n.tick = w.tick:=by
 cases h<;>exact ⟨rfl,rfl,rfl⟩
def Ir (p : Player) (x y : Int) : Bool:=decide (8 * x ≤ p.x + 3) && (decide (p.x - 3 < 8 * x + 8) && (decide (8 * y ≤ p.y + 3) && decide (p.y - 3 < 8 * y + 8)))
theorem Eff.chunk {w n : Wld} {p : Player} {c : Cmd} (h : Eff w p c n) (hR : RW w) (hn : RW n) {x y : Int} (hx : 0 ≤ x ∧ x < w.size) (hy : 0 ≤ y ∧ y < w.size) (hf : Ir p x y = false) : (ba n x y).1 = (ba w x y).1:=by
 have hs:=hR.size
 obtain ⟨e1,e2,_⟩:=h.size
 rw [(i9 hR hx hy).1,(i9 hn (by rw [e1];exact hx) (by rw [e1];exact hy)).1,e2]
 cases h with
 | stay p' hi hs=>rfl
 | deal p' q q'=>rfl
 | keep k p' X Y hi hX hY hw hk hm h1 h2 hN hs =>
  show (match aH aI (d5 w.seed w.chunks k) (aI (atC x y)) with|some c=>c|none=>eh w.seed x y,true).1 = _
  have hne : ¬ aI (atC x y) = aI k:=by
   intro he
   have hkp:=cT hk
   have he' : 16 * y + x = 16 * k.y + k.x:=he
   obtain ⟨rfl,rfl⟩:=KH (a:=k.x) (b:=k.y) (by omega) (by omega) he'
   unfold Ir at hf
   unfold d_ at hN
   simp only [Bool.and_eq_true,Bool.and_eq_false_iff,decide_eq_true_eq,decide_eq_false_iff_not] at hf hN
   omega
  rw [wD hR.rc,if_neg hne]
  rfl
theorem j_ {w : Wld} (hR : RW w) (id : Int) : ag w id = match aH pid w.players id with|some p=>(p,true)|none=>(kf,false):=by
 unfold ag;rw [if_neg (by rw [aK.2 hR];simp)];rfl
theorem Eff.player {w n : Wld} {p q : Player} {c : Cmd} (h : Eff w p c n) (hR : RW w) (hn : RW n) (hq : q ∈ w.players) :
  ∃ r,ag n q.id = (r,true) ∧ (¬ q.id = p.id → (r.x = q.x ∧ r.y = q.y) ∧ (¬ q.wth = p.id → r = q) ∧ (¬ q.id = p.wth → ¬ (c.dol = 11 ∧ c.a = q.id) → r = q)):=by
 have hg:=ng (key:=pid) hR.rp hq
 rw [j_ hn]
 cases h with
 | stay p' hi hs =>
  rw [show (cR w (ck w.players p')).players = ck w.players p' from rfl,eU hR.rp]
  by_cases he : q.id = p'.id
  ·rw [if_pos he];exact ⟨p',rfl,fun hne=>absurd (he.trans hi) hne⟩
  ·rw [if_neg he,show aH pid w.players q.id = some q from hg];exact ⟨q,rfl,fun _=>⟨⟨rfl,rfl⟩,fun _=>rfl,fun _ _=>rfl⟩⟩
 | keep k p' X Y hi hX hY hw hk hm h1 h2 hN hs =>
  rw [show (cR (c_ w (d5 w.seed w.chunks k)) (ck w.players p')).players = ck w.players p' from rfl,eU hR.rp]
  by_cases he : q.id = p'.id
  ·rw [if_pos he];exact ⟨p',rfl,fun hne=>absurd (he.trans hi) hne⟩
  ·rw [if_neg he,show aH pid w.players q.id = some q from hg];exact ⟨q,rfl,fun _=>⟨⟨rfl,rfl⟩,fun _=>rfl,fun _ _=>rfl⟩⟩
 | deal p' z z' hz hi hj hne hx hy hzx hzy hw hkq hs ht =>
  rw [show (cR w (ck (ck w.players z') p')).players = ck (ck w.players z') p' from rfl,eU (eV hR.rp),eU hR.rp]
  by_cases he : q.id = p'.id
  ·rw [if_pos he];exact ⟨p',rfl,fun hne=>absurd (he.trans hi) hne⟩
  ·rw [if_neg he]
   by_cases hf : q.id = z'.id
   ·rw [if_pos hf]
    have hqz : q = z:=by
     have h2:=hz.get
     rw [← hj,← hf,show aH pid w.players q.id = some q from hg] at h2
     exact Option.some.inj h2
    subst hqz
    refine ⟨z',rfl,fun _=>⟨⟨hzx,hzy⟩,hkq,fun h3 h4=>?_⟩⟩
    rcases hw with hw|hw
    ·exact absurd hw h3
    ·exact absurd ⟨hw.1,hw.2.symm⟩ h4
   ·rw [if_neg hf,show aH pid w.players q.id = some q from hg];exact ⟨q,rfl,fun _=>⟨⟨rfl,rfl⟩,fun _=>rfl,fun _ _=>rfl⟩⟩
theorem nu {w : Wld} (hR : RW w) (id : Int) (c : Cmd) :
  (¬ (aG w id c).2 = 0 ∧ (aG w id c).1 = w) ∨
  ((ag w id).2 = false ∧ c.dol = 1 ∧ bG c = true ∧ ∃ p',p'.id = id ∧ p' = ⟨id,cL w.size id,0,ce,-1,[],false⟩ ∧ fD w p' ∧ aG w id c = (cR w (ck w.players p'),0)) ∨
  ((ag w id).2 = true ∧ ¬ c.dol = 1 ∧ bG c = true ∧ bH w (ag w id).1 ∧ (ag w id).1.id = id ∧ (aZ w (ag w id).1 c).2 = 0 ∧ aG w id c = ((aZ w (ag w id).1 c).1,0)):=by
 by_cases he : (aG w id c).2 = 0
 ·right
  have hr:=aK.2 hR
  unfold aG at he ⊢
  rw [if_neg (by rw [hr];simp)] at he ⊢
  split at he
  ·simp at he
  ·rename_i h1
   rw [if_neg h1]
   have h1' : bG c = true:=by simpa using h1
   split at he
   ·simp at he
   ·rename_i h2
    rw [if_neg h2]
    split at he
    ·rename_i h3
     rw [if_pos h3]
     left
     obtain ⟨s1,s2⟩:=mo he
     refine ⟨?_,h3,h1',_,rfl,rfl,s1,?_⟩
     ·rw [decide_eq_true h3] at h2;simpa using h2
     ·rw [iv s1]
    ·rename_i h3
     rw [if_neg h3]
     split at he
     ·rename_i h4;exact absurd he h4
     ·rename_i h4
      right
      have hp : (ag w id).2 = true:=by rw [decide_eq_false h3] at h2;simpa using h2
      obtain ⟨a,b⟩:=ri hR hp
      exact ⟨hp,h3,h1',a,b,Decidable.not_not.1 h4,by rw [if_neg h4]⟩
 ·left;exact ⟨he,Fu he⟩
end Go.Proofs.YtkojlembanldcaaGreat
