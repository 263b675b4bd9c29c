/- tick.Fold as a Lean function, and its plain laws. -/
import Derived.Test.YtkojlembanldcaaGreatGd
import Derived.Sort.Statements
import Derived.Test.YtkojlembanldcaaGreatGi
set_option linter.unusedSimpArgs false
set_option linter.unusedVariables false
set_option maxRecDepth 100000
set_option maxHeartbeats 16000000
namespace Go.Proofs.YtkojlembanldcaaGreat
open Go Go.RowKit Eng Go.Sort
def fM : List Int → List Int → Int
 | a :: r,b :: s=>if bX a b = 0 then fM r s else bX a b
 | _,_=>0
theorem HY {a b : Int} : bX a b < 0 ↔ a < b:=by unfold bX;split<;>(try split)<;>omega
theorem qf {a b : Int} : bX a b = 0 ↔ a = b:=by unfold bX;split<;>(try split)<;>omega
theorem kG (a b : Int) (r s : List Int) : fM (a :: r) (b :: s) < 0 ↔ a < b ∨ a = b ∧ fM r s < 0:=by
 show (if bX a b = 0 then fM r s else bX a b) < 0 ↔ _
 by_cases h : a = b
 ·rw [if_pos (qf.2 h)];subst h
  exact ⟨fun x=>.inr ⟨rfl,x⟩,fun x=>x.elim (fun y=>absurd y (Int.lt_irrefl _)) (·.2)⟩
 ·rw [if_neg (fun e=>h (qf.1 e)),HY]
  exact ⟨.inl,fun x=>x.elim id fun y=>absurd y.1 h⟩
theorem DO (l : List Int) : ¬ fM l l < 0:=by
 induction l with
 | nil=>exact Int.lt_irrefl 0
 | cons a r ih=>rw [kG];rintro (h|h);exact Int.lt_irrefl _ h;exact ih h.2
theorem wJ : ∀ {a b c : List Int},a.length = b.length → b.length = c.length → fM a b < 0 → fM b c < 0 → fM a c < 0
 | [],[],_,_,_,h,_=>absurd h (Int.lt_irrefl 0)
 | x :: a,y :: b,z :: c,h1,h2,h,k=>by
  rw [kG] at *
  have h1' : a.length = b.length:=by simpa using h1
  have h2' : b.length = c.length:=by simpa using h2
  rcases h with h|⟨h,h'⟩
  ·rcases k with k|⟨k,_⟩
   ·left;omega
   ·left;omega
  ·rcases k with k|⟨k,k'⟩
   ·left;omega
   ·right;exact ⟨by omega,wJ h1' h2' h' k'⟩
theorem ul : ∀ {a b c : List Int},a.length = b.length → b.length = c.length → ¬ fM a b < 0 → ¬ fM b c < 0 → ¬ fM a c < 0
 | [],[],[],_,_,_,_=>Int.lt_irrefl 0
 | x :: a,y :: b,z :: c,h1,h2,h,k=>by
  rw [kG] at *
  have h1' : a.length = b.length:=by simpa using h1
  have h2' : b.length = c.length:=by simpa using h2
  rintro (q|⟨q,q'⟩)
  ·by_cases e1 : x < y
   ·exact h (.inl e1)
   ·exact k (.inl (by omega))
  ·by_cases e1 : x = y
   ·exact ul h1' h2' (fun e=>h (.inr ⟨e1,e⟩)) (fun e=>k (.inr ⟨by omega,e⟩)) q'
   ·by_cases e2 : x < y
    ·exact h (.inl e2)
    ·exact k (.inl (by omega))
theorem F4 : ∀ {a b : List Int},a.length = b.length → ¬ fM a b < 0 → ¬ fM b a < 0 → a = b
 | [],[],_,_,_=>rfl
 | x :: a,y :: b,h1,h,k=>by
  rw [kG] at *
  have h1' : a.length = b.length:=by simpa using h1
  have e : x = y:=by
   by_cases e1 : x < y
   ·exact absurd (.inl e1) h
   ·by_cases e2 : y < x
    ·exact absurd (.inl e2) k
    ·omega
  subst e
  rw [F4 h1' (fun q=>h (.inr ⟨rfl,q⟩)) (fun q=>k (.inr ⟨rfl,q⟩))]
def iO (o : ay) : List Int:=[o.player,o.seq,o.cmd.dol,o.cmd.a,o.cmd.b,o.cmd.c,o.cmd.n]
def HZ (x y : ay) : Int:=fM (iO x) (iO y)
def ltO (x y : ay) : Bool:=decide (HZ x y < 0)
theorem H0 {x y : ay} (h : iO x = iO y) : x = y:=by
 obtain ⟨p,s,d,a,b,c,n⟩:=x
 obtain ⟨p',s',d',a',b',c',n'⟩:=y
 simp only [iO,List.cons.injEq] at h
 obtain ⟨rfl,rfl,rfl,rfl,rfl,rfl,rfl,_⟩:=h
 rfl
theorem DP : SWO ltO where
 irrefl x:=decide_eq_false (DO _)
 trans x y z h k:=decide_eq_true (wJ (b:=iO y) rfl rfl (of_decide_eq_true h) (of_decide_eq_true k))
 ntrans x y z h k:=decide_eq_false (ul (b:=iO y) rfl rfl (of_decide_eq_false h) (of_decide_eq_false k))
theorem wK (x y : ay) (h : ltO x y = false) (k : ltO y x = false) : x = y:=H0 (F4 rfl (of_decide_eq_false h) (of_decide_eq_false k))
def leO (x y : ay) : Bool:=!(ltO y x)
def jv (l : List ay) : List ay:=l.mergeSort leO
theorem wL (x y z : ay) (h : leO x y = true) (k : leO y z = true) : leO x z = true:=by
 unfold leO at *
 rw [Bool.not_eq_true'] at *
 exact DP.ntrans _ _ _ k h
theorem wM (x y : ay) (h : ltO x y = true) : ltO y x = false:=by
 cases hk : ltO y x with
 | false=>rfl
 | true=>have:=DP.trans _ _ _ h hk;rw [DP.irrefl] at this;cases this
theorem F5 (x y : ay) : (leO x y || leO y x) = true:=by
 unfold leO
 cases h : ltO y x with
 | false=>rfl
 | true=>rw [wM _ _ h];rfl
theorem qg (l : List ay) : (jv l).Pairwise (fun x y=>leO x y = true):=List.pairwise_mergeSort wL F5 l
theorem lA (l : List ay) : (jv l).Perm l:=List.mergeSort_perm l leO
theorem DQ {l : List ay} (h : l.Pairwise (fun x y=>leO x y = true)) : jv l = l:=List.mergeSort_of_pairwise h
def ej (x y : ay) : Bool:=decide (x.player = y.player) && decide (x.seq = y.seq)
def e_ (prev : ay) : List ay → List ay
 | []=>[]
 | x :: r=>if ej x prev = true then e_ x r else x :: e_ x r
def dR : List ay → List ay
 | []=>[]
 | x :: r=>x :: e_ x r
def b7 (l : List ay) : List ay:=dR (jv l)
theorem wN {x y : ay} : ej x y = true ↔ x.player = y.player ∧ x.seq = y.seq:=by
 unfold ej;rw [Bool.and_eq_true,decide_eq_true_eq,decide_eq_true_eq]
theorem DR (p : ay) (l : List ay) : (e_ p l).Sublist l:=by
 induction l generalizing p with
 | nil=>exact List.Sublist.slnil
 | cons x r ih =>
  unfold e_
  split
  ·exact List.Sublist.cons _ (ih x)
  ·exact List.Sublist.cons_cons _ (ih x)
theorem zR (l : List ay) : (dR l).Sublist l:=by
 cases l with
 | nil=>exact List.Sublist.slnil
 | cons x r=>exact List.Sublist.cons_cons _ (DR x r)
theorem lB {l : List ay} {x : ay} (h : x ∈ b7 l) : x ∈ l:=(lA l).mem_iff.1 ((zR _).subset h)
theorem AZ {l m : List ay} (h : l.Perm m) : jv l = jv m:=by
 refine List.Perm.eq_of_pairwise (le:=fun x y=>leO x y = true) ?_ (qg l) (qg m) ((lA l).trans (h.trans (lA m).symm))
 intro a b _ _ h1 h2
 unfold leO at h1 h2
 rw [Bool.not_eq_true'] at h1 h2
 exact wK a b h2 h1
theorem A0 (p : ay) (r : List ay) (y : ay) : e_ p (r ++ [y]) = e_ p r ++ (if ej y ((p :: r).getLast (by simp)) = true then [] else [y]):=by
 induction r generalizing p with
 | nil=>show (if ej y p = true then [] else [y]) = [] ++ _;rfl
 | cons x r ih =>
  rw [List.getLast_cons (by simp : x :: r ≠ [])]
  show (if ej x p = true then e_ x (r ++ [y]) else x :: e_ x (r ++ [y])) = (if ej x p = true then e_ x r else x :: e_ x r) ++ _
  rw [ih x]
  by_cases hs : ej x p = true
  ·rw [if_pos hs,if_pos hs]
  ·rw [if_neg hs,if_neg hs];rfl
theorem DS {l : List ay} (h : l ≠ []) (y : ay) : dR (l ++ [y]) = dR l ++ (if ej y (l.getLast h) = true then [] else [y]):=by
 cases l with
 | nil=>exact absurd rfl h
 | cons p r =>
  show p :: e_ p (r ++ [y]) = p :: (e_ p r ++ _)
  rw [A0]
theorem qh {l : List ay} {j : Nat} (h0 : 0 < j) (h : j < l.length) {y z : ay} (hy : l[j]? = some y) (hz : l[j - 1]? = some z) :
  dR (l.take (j + 1)) = dR (l.take j) ++ (if ej y z = true then [] else [y]):=by
 have hne : l.take j ≠ []:=by
  intro e
  have : (l.take j).length = 0:=by rw [e];rfl
  rw [List.length_take] at this
  omega
 rw [List.take_add_one,hy]
 show dR (l.take j ++ [y]) = _
 rw [DS hne]
 have e : (l.take j).getLast hne = z:=by
  rw [List.getLast_eq_getElem]
  have h2 : (l.take j)[j - 1]? = some z:=by rw [List.getElem?_take_of_lt (by omega)];exact hz
  have h3 : (l.take j).length - 1 = j - 1:=by rw [List.length_take];omega
  rw [List.getElem_eq_iff,h3]
  exact h2
 rw [e]
theorem Ch (l : List ay) : (dR l).length ≤ l.length:=(zR l).length_le
theorem qi (l : List ay) : (jv l).length = l.length:=(lA l).length_eq
theorem lC (l : List ay) : (b7 l).length ≤ l.length:=Nat.le_trans (Ch _) (by rw [qi];exact Nat.le_refl _)
open Go Go.RowKit Eng
abbrev cg (w : Wld) (t : Int) : Wld:={ w with tick:=t }
section
variable {w : Wld} (hR : RW w) {t : Int} (ht : 0 ≤ t ∧ t ≤ 1099511627776)
include hR ht
theorem i_ : RW (cg w t):=by
 refine ⟨?_,hR.chunks,hR.rc,hR.rp,hR.players⟩
 have h1:=hR.size
 simp only [iy,Bool.and_eq_true,decide_eq_true_eq]
 exact ⟨h1.1,h1.2.1,ht.1,ht.2,by omega⟩
theorem zS (id : Int) : ag (cg w t) id = ag w id:=by
 rw [j_ (i_ hR ht),j_ hR]
theorem lT (x y : Int) : ba (cg w t) x y = ba w x y:=by
 unfold ba;rw [aK.2 (i_ hR ht),aK.2 hR]
theorem LM (x y : Int) : atW (cg w t) x y = atW w x y:=by
 unfold atW;simp only [lT hR ht]
theorem Lt (k : Chunk) : br (cg w t) k = (cg (br w k).1 t,(br w k).2):=by
 unfold br
 rw [aK.2 (i_ hR ht),aK.2 hR]
 simp only [Bool.true_eq_false,if_false]
 by_cases h1 : w.size ≤ max k.x k.y ∨ ai k = false
 ·rw [if_pos h1,if_pos h1]
 ·rw [if_neg h1,if_neg h1]
  by_cases h2 : dy w.seed k = true
  ·rw [if_pos h2,if_pos h2];rfl
  ·rw [if_neg h2,if_neg h2];rfl
theorem o6 (p : Player) : am (cg w t) p = (cg (am w p).1 t,(am w p).2):=by
 unfold am
 rw [aK.2 (i_ hR ht),aK.2 hR]
 simp only [Bool.true_eq_false,if_false]
 by_cases h1 : a7 p = false ∨ av w.size p.x p.y = false
 ·rw [if_pos h1,if_pos h1]
 ·rw [if_neg h1,if_neg h1]
  by_cases h2 : (aH pid w.players p.id).isSome = true
  ·rw [if_pos h2,if_pos h2];rfl
  ·rw [if_neg h2,if_neg h2]
   by_cases h3 : 32 ≤ w.players.length
   ·rw [if_pos h3,if_pos h3]
   ·rw [if_neg h3,if_neg h3];rfl
omit ht in
theorem JC (k : Chunk) : RW (br w k).1:=by
 rcases vl w k with ⟨_,h1,h2,h3⟩|⟨h,_⟩
 ·rw [nK hR h1 h2];exact FZ hR h1 h2
 ·rw [h];exact hR
omit ht in
theorem JD (p : Player) : RW (am w p).1:=by
 rcases nL w p with ⟨h,_⟩|⟨h,_⟩
 ·rw [iv h];exact qd h
 ·rw [h];exact hR
theorem qj (k : Chunk) (p : Player) : cV (cg w t) k p = (cg (cV w k p).1 t,(cV w k p).2):=by
 unfold cV
 rw [Lt hR ht]
 dsimp only
 by_cases h : ¬ (br w k).2 = 0
 ·rw [if_pos h,if_pos h]
 ·rw [if_neg h,if_neg h]
  exact o6 (JC hR k) ht p
theorem KM (p : Player) (c : Cmd) : fx (cg w t) p c = (cg (fx w p c).1 t,(fx w p c).2):=by
 unfold fx
 simp only [LM hR ht,o6 hR ht]
 (repeat' split)<;>rfl
theorem JE (p : Player) (c : Cmd) : dH (cg w t) p c = (cg (dH w p c).1 t,(dH w p c).2):=by
 unfold dH aA dF
 simp only [lT hR ht,qj hR ht]
 (repeat' split)<;>rfl
theorem JF (p : Player) (c : Cmd) : dI (cg w t) p c = (cg (dI w p c).1 t,(dI w p c).2):=by
 unfold dI aA dF
 simp only [lT hR ht,qj hR ht]
 (repeat' split)<;>rfl
theorem KN (p : Player) : eC (cg w t) p = (cg (eC w p).1 t,(eC w p).2):=by
 unfold eC aA
 simp only [lT hR ht,qj hR ht]
 (repeat' split)<;>rfl
theorem KO (p : Player) (c : Cmd) : fy (cg w t) p c = (cg (fy w p c).1 t,(fy w p c).2):=by
 unfold fy aA
 simp only [lT hR ht,qj hR ht]
 (repeat' split)<;>rfl
theorem JG (p : Player) (c : Cmd) : ee (cg w t) p c = (cg (ee w p c).1 t,(ee w p c).2):=by
 unfold ee aA dF
 simp only [lT hR ht,qj hR ht]
 generalize ba w (c.a / 8) (c.b / 8) = K
 by_cases h1 : ¬ (if av w.size c.a c.b = false then 102 else if d_ p c.a c.b = false then 106 else (0 : Int)) = 0
 ·rw [if_pos h1,if_pos h1]
 ·rw [if_neg h1,if_neg h1]
  by_cases h2 : (c8 K.1 (aJ c.a c.b)).2 = false
  ·rw [if_pos h2,if_pos h2]
  ·rw [if_neg h2,if_neg h2]
   generalize (if c.dol = 7 then cA p.bag (c8 K.1 (aJ c.a c.b)).1 c.c c.n else cA (c8 K.1 (aJ c.a c.b)).1 p.bag c.c c.n) = M
   by_cases h3 : ¬ M.2.2 = 0
   ·rw [if_pos h3,if_pos h3]
   ·rw [if_neg h3,if_neg h3]
    generalize ct K.1 (aJ c.a c.b) (if c.dol = 7 then M.2.1 else M.1) = F
    by_cases h4 : ¬ F.2 = 0
    ·rw [if_pos h4,if_pos h4]
    ·rw [if_neg h4,if_neg h4]
theorem JH (p : Player) (c : Cmd) : dJ (cg w t) p c = (cg (dJ w p c).1 t,(dJ w p c).2):=by
 unfold dJ
 simp only [o6 hR ht]
 (repeat' split)<;>rfl
theorem Lu (p : Player) : gI (cg w t) p = (cg (gI w p).1 t,(gI w p).2):=by
 unfold gI
 simp only [o6 hR ht]
 (repeat' split)<;>rfl
theorem KP (p : Player) (c : Cmd) : cz (cg w t) p c = (cg (cz w p c).1 t,(cz w p c).2):=by
 unfold cz
 simp only [zS hR ht,o6 hR ht]
 generalize ag w (if c.dol = 11 then c.a else p.wth) = Q
 by_cases h1 : Q.2 = false
 ·rw [if_pos h1,if_pos h1]
 ·rw [if_neg h1,if_neg h1]
  by_cases h2 : ¬ c.dol = 13 ∧ d_ p Q.1.x Q.1.y = false
  ·rw [if_pos h2,if_pos h2]
  ·rw [if_neg h2,if_neg h2]
   generalize (if c.dol = 11 then cB p Q.1 c.c c.n else if c.dol = 12 then ((bo p Q.1).1,(bo p Q.1).2.1,(bo p Q.1).2.2.2) else b6 p Q.1) = r
   by_cases h3 : ¬ r.2.2 = 0
   ·rw [if_pos h3,if_pos h3]
   ·rw [if_neg h3,if_neg h3]
    by_cases h4 : ¬ (am w r.2.1).2 = 0
    ·rw [if_pos h4,if_pos h4]
    ·rw [if_neg h4,if_neg h4]
     exact o6 (JD hR r.2.1) ht r.1
theorem Lv (p : Player) (c : Cmd) : aZ (cg w t) p c = (cg (aZ w p c).1 t,(aZ w p c).2):=by
 unfold aZ
 simp only [KM hR ht,JE hR ht,JF hR ht,KN hR ht,KO hR ht,JG hR ht,JH hR ht,Lu hR ht,KP hR ht]
 (repeat' split)<;>rfl
theorem JI (id : Int) (c : Cmd) : aG (cg w t) id c = (cg (aG w id c).1 t,(aG w id c).2):=by
 unfold aG
 rw [aK.2 (i_ hR ht),aK.2 hR]
 simp only [Bool.true_eq_false,if_false,zS hR ht,Lv hR ht,o6 hR ht]
 (repeat' split)<;>rfl
end
theorem um {w : Wld} (hR : RW w) (id : Int) (c : Cmd) : (aG w id c).1.tick = w.tick:=by
 have h:=hR.size
 have e:=JI hR (t:=w.tick) ⟨h.2.2.1,h.2.2.2.1⟩ id c
 have e2:=congrArg (fun r=>r.1.tick) e
 exact e2
def fP (w : Wld) (o : ay) : Wld × Int:=aG w o.player o.cmd
def bw : Wld → List ay → Wld × List nX
 | w,[]=>(w,[])
 | w,o :: r=>((bw (fP w o).1 r).1,⟨o.player,o.seq,(fP w o).2⟩ :: (bw (fP w o).1 r).2)
theorem nM {w : Wld} (hR : RW w) (o : ay) : RW (fP w o).1:=HC (aK.2 hR)
theorem mv {l : List ay} : ∀ {w : Wld},RW w → RW (bw w l).1:=by
 induction l with
 | nil=>intro w h;exact h
 | cons o r ih=>intro w h;exact ih (nM h o)
theorem s_ {l : List ay} : ∀ {w : Wld},RW w → (bw w l).1.tick = w.tick:=by
 induction l with
 | nil=>intro w h;rfl
 | cons o r ih =>
  intro w h
  show (bw (fP w o).1 r).1.tick = w.tick
  rw [ih (nM h o)]
  exact um h _ _
theorem JJ (a b : List ay) : ∀ w : Wld,bw w (a ++ b) = ((bw (bw w a).1 b).1,(bw w a).2 ++ (bw (bw w a).1 b).2):=by
 induction a with
 | nil=>intro w;rfl
 | cons o r ih =>
  intro w
  show ((bw (fP w o).1 (r ++ b)).1,_ :: (bw (fP w o).1 (r ++ b)).2) = _
  rw [ih];rfl
theorem vn {l : List ay} : ∀ {w : Wld},(bw w l).2.length = l.length:=by
 induction l with
 | nil=>intro w;rfl
 | cons o r ih=>intro w;show (bw (fP w o).1 r).2.length + 1 = r.length + 1;rw [ih]
theorem kP (w : Wld) {l : List ay} {k : Nat} {o : ay} (h : l[k]? = some o) :
  bw w (l.take (k + 1)) = ((fP (bw w (l.take k)).1 o).1,(bw w (l.take k)).2 ++ [⟨o.player,o.seq,(fP (bw w (l.take k)).1 o).2⟩]):=by
 rw [List.take_add_one,h,Option.toList_some,JJ];rfl
def ci (w : Wld) (l : List ay) : Wld × List nX × Int:=
 if 1099511627776 ≤ w.tick ∨ aO w = false then (w,[],113) else if 200 < l.length then (w,[],3)
 else (cg (bw w (b7 l)).1 ((bw w (b7 l)).1.tick + 1),(bw w (b7 l)).2,0)
theorem qk {w : Wld} (hR : RW w) (ht : w.tick < 1099511627776) {l : List ay} (hl : l.length ≤ 200) : ci w l = (cg (bw w (b7 l)).1 (w.tick + 1),(bw w (b7 l)).2,0):=by
 unfold ci
 rw [if_neg (by rw [aK.2 hR];simp;omega),if_neg (by omega),s_ hR]
theorem o7 (w : Wld) (l : List ay) : (¬ (ci w l).2.2 = 0 ∧ (ci w l).1 = w ∧ (ci w l).2.1 = []) ∨ (RW w ∧ w.tick < 1099511627776 ∧ l.length ≤ 200 ∧ ci w l = (cg (bw w (b7 l)).1 (w.tick + 1),(bw w (b7 l)).2,0)):=by
 by_cases h1 : 1099511627776 ≤ w.tick ∨ aO w = false
 ·left;unfold ci;rw [if_pos h1];exact ⟨by simp,rfl,rfl⟩
 ·by_cases h2 : 200 < l.length
  ·left;unfold ci;rw [if_neg h1,if_pos h2];exact ⟨by simp,rfl,rfl⟩
  ·right
   have hR : aO w = true:=by
    cases h : aO w with
    | true=>rfl
    | false=>exact absurd (.inr h) h1
   exact ⟨aK.1 hR,by omega,by omega,qk (aK.1 hR) (by omega) (by omega)⟩
theorem JK {w : Wld} (hR : RW w) (l : List ay) : RW (ci w l).1:=by
 rcases o7 w l with ⟨_,h,_⟩|⟨_,ht,_,h⟩
 ·rw [h];exact hR
 ·rw [h];exact i_ (mv hR) ⟨by have:=hR.size;omega,by omega⟩
end Go.Proofs.YtkojlembanldcaaGreat
