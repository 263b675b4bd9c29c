/- tick.Fold as a Lean function, and its plain laws. -/
import Derived.Test.YtkojlembanldcaaGreatGd
import Derived.Sort.Statements
import Derived.Test.YtkojlembanldcaaGreatGi
set_option linter.unusedSimpArgs false
set_option linter.unusedVariables false
set_option maxRecDepth 100000
set_option maxHeartbeats 16000000
namespace Go.Proofs.YtkojlembanldcaaGreat
open Go Go.RowKit Eng Go.Sort
def lexL : List Int → List Int → Int
 | a :: r,b :: s=>if cmpI a b = 0 then lexL r s else cmpI a b
 | _,_=>0
theorem cmpI_neg {a b : Int} : cmpI a b < 0 ↔ a < b:=by unfold cmpI;split<;>(try split)<;>omega
theorem cmpI_zero {a b : Int} : cmpI a b = 0 ↔ a = b:=by unfold cmpI;split<;>(try split)<;>omega
theorem lexL_cons (a b : Int) (r s : List Int) : lexL (a :: r) (b :: s) < 0 ↔ a < b ∨ a = b ∧ lexL r s < 0:=by
 show (if cmpI a b = 0 then lexL r s else cmpI a b) < 0 ↔ _
 by_cases h : a = b
 ·rw [if_pos (cmpI_zero.2 h)];subst h
  exact ⟨fun x=>.inr ⟨rfl,x⟩,fun x=>x.elim (fun y=>absurd y (Int.lt_irrefl _)) (·.2)⟩
 ·rw [if_neg (fun e=>h (cmpI_zero.1 e)),cmpI_neg]
  exact ⟨.inl,fun x=>x.elim id fun y=>absurd y.1 h⟩
theorem lex_irrefl (l : List Int) : ¬ lexL l l < 0:=by
 induction l with
 | nil=>exact Int.lt_irrefl 0
 | cons a r ih=>rw [lexL_cons];rintro (h|h);exact Int.lt_irrefl _ h;exact ih h.2
theorem lex_trans : ∀ {a b c : List Int},a.length = b.length → b.length = c.length → lexL a b < 0 → lexL b c < 0 → lexL a c < 0
 | [],[],_,_,_,h,_=>absurd h (Int.lt_irrefl 0)
 | x :: a,y :: b,z :: c,h1,h2,h,k=>by
  rw [lexL_cons] at *
  have h1' : a.length = b.length:=by simpa using h1
  have h2' : b.length = c.length:=by simpa using h2
  rcases h with h|⟨h,h'⟩
  ·rcases k with k|⟨k,_⟩
   ·left;omega
   ·left;omega
  ·rcases k with k|⟨k,k'⟩
   ·left;omega
   ·right;exact ⟨by omega,lex_trans h1' h2' h' k'⟩
theorem lex_ntrans : ∀ {a b c : List Int},a.length = b.length → b.length = c.length → ¬ lexL a b < 0 → ¬ lexL b c < 0 → ¬ lexL a c < 0
 | [],[],[],_,_,_,_=>Int.lt_irrefl 0
 | x :: a,y :: b,z :: c,h1,h2,h,k=>by
  rw [lexL_cons] at *
  have h1' : a.length = b.length:=by simpa using h1
  have h2' : b.length = c.length:=by simpa using h2
  rintro (q|⟨q,q'⟩)
  ·by_cases e1 : x < y
   ·exact h (.inl e1)
   ·exact k (.inl (by omega))
  ·by_cases e1 : x = y
   ·exact lex_ntrans h1' h2' (fun e=>h (.inr ⟨e1,e⟩)) (fun e=>k (.inr ⟨by omega,e⟩)) q'
   ·by_cases e2 : x < y
    ·exact h (.inl e2)
    ·exact k (.inl (by omega))
theorem lex_eq : ∀ {a b : List Int},a.length = b.length → ¬ lexL a b < 0 → ¬ lexL b a < 0 → a = b
 | [],[],_,_,_=>rfl
 | x :: a,y :: b,h1,h,k=>by
  rw [lexL_cons] at *
  have h1' : a.length = b.length:=by simpa using h1
  have e : x = y:=by
   by_cases e1 : x < y
   ·exact absurd (.inl e1) h
   ·by_cases e2 : y < x
    ·exact absurd (.inl e2) k
    ·omega
  subst e
  rw [lex_eq h1' (fun q=>h (.inr ⟨rfl,q⟩)) (fun q=>k (.inr ⟨rfl,q⟩))]
def keyO (o : Order) : List Int:=[o.player,o.seq,o.cmd.dol,o.cmd.a,o.cmd.b,o.cmd.c,o.cmd.n]
def cmpO (x y : Order) : Int:=lexL (keyO x) (keyO y)
def ltO (x y : Order) : Bool:=decide (cmpO x y < 0)
theorem keyO_inj {x y : Order} (h : keyO x = keyO y) : x = y:=by
 obtain ⟨p,s,d,a,b,c,n⟩:=x
 obtain ⟨p',s',d',a',b',c',n'⟩:=y
 simp only [keyO,List.cons.injEq] at h
 obtain ⟨rfl,rfl,rfl,rfl,rfl,rfl,rfl,_⟩:=h
 rfl
theorem swoO : SWO ltO where
 irrefl x:=decide_eq_false (lex_irrefl _)
 trans x y z h k:=decide_eq_true (lex_trans (b:=keyO y) rfl rfl (of_decide_eq_true h) (of_decide_eq_true k))
 ntrans x y z h k:=decide_eq_false (lex_ntrans (b:=keyO y) rfl rfl (of_decide_eq_false h) (of_decide_eq_false k))
theorem ltO_total (x y : Order) (h : ltO x y = false) (k : ltO y x = false) : x = y:=keyO_inj (lex_eq rfl (of_decide_eq_false h) (of_decide_eq_false k))
def leO (x y : Order) : Bool:=!(ltO y x)
def sortO (l : List Order) : List Order:=l.mergeSort leO
theorem leO_trans (x y z : Order) (h : leO x y = true) (k : leO y z = true) : leO x z = true:=by
 unfold leO at *
 rw [Bool.not_eq_true'] at *
 exact swoO.ntrans _ _ _ k h
theorem ltO_asymm (x y : Order) (h : ltO x y = true) : ltO y x = false:=by
 cases hk : ltO y x with
 | false=>rfl
 | true=>have:=swoO.trans _ _ _ h hk;rw [swoO.irrefl] at this;cases this
theorem leO_total (x y : Order) : (leO x y || leO y x) = true:=by
 unfold leO
 cases h : ltO y x with
 | false=>rfl
 | true=>rw [ltO_asymm _ _ h];rfl
theorem sortO_sorted (l : List Order) : (sortO l).Pairwise (fun x y=>leO x y = true):=List.pairwise_mergeSort leO_trans leO_total l
theorem sortO_perm (l : List Order) : (sortO l).Perm l:=List.mergeSort_perm l leO
theorem sortO_self {l : List Order} (h : l.Pairwise (fun x y=>leO x y = true)) : sortO l = l:=List.mergeSort_of_pairwise h
def sameK (x y : Order) : Bool:=decide (x.player = y.player) && decide (x.seq = y.seq)
def keyLt (x y : Order) : Prop:=x.player < y.player ∨ x.player = y.player ∧ x.seq < y.seq
def keyLe (x y : Order) : Prop:=x.player < y.player ∨ x.player = y.player ∧ x.seq ≤ y.seq
theorem keyLe_of {x y : Order} (h : leO x y = true) : keyLe x y:=by
 unfold leO ltO at h
 rw [Bool.not_eq_true',decide_eq_false_iff_not] at h
 unfold cmpO keyO at h
 rw [lexL_cons,lexL_cons] at h
 unfold keyLe
 by_cases h1 : y.player < x.player
 ·exact absurd (.inl h1) h
 ·by_cases h2 : y.player = x.player
  ·by_cases h3 : y.seq < x.seq
   ·exact absurd (.inr ⟨h2,.inl h3⟩) h
   ·omega
  ·omega
theorem leO_of_key {x y : Order} (h : keyLt x y) : leO x y = true:=by
 unfold leO ltO
 rw [Bool.not_eq_true',decide_eq_false_iff_not]
 unfold cmpO keyO keyLt at *
 rw [lexL_cons,lexL_cons]
 rintro (q|⟨q,q|q⟩)<;>omega
def compGo (prev : Order) : List Order → List Order
 | []=>[]
 | x :: r=>if sameK x prev = true then compGo x r else x :: compGo x r
def compO : List Order → List Order
 | []=>[]
 | x :: r=>x :: compGo x r
def sortedL (l : List Order) : List Order:=compO (sortO l)
theorem sameK_iff {x y : Order} : sameK x y = true ↔ x.player = y.player ∧ x.seq = y.seq:=by
 unfold sameK;rw [Bool.and_eq_true,decide_eq_true_eq,decide_eq_true_eq]
theorem compGo_sub (p : Order) (l : List Order) : (compGo p l).Sublist l:=by
 induction l generalizing p with
 | nil=>exact List.Sublist.slnil
 | cons x r ih =>
  unfold compGo
  split
  ·exact List.Sublist.cons _ (ih x)
  ·exact List.Sublist.cons_cons _ (ih x)
theorem comp_sub (l : List Order) : (compO l).Sublist l:=by
 cases l with
 | nil=>exact List.Sublist.slnil
 | cons x r=>exact List.Sublist.cons_cons _ (compGo_sub x r)
theorem compGo_rises {p : Order} {l : List Order} (h : (p :: l).Pairwise keyLe) : (∀ x ∈ compGo p l,keyLt p x) ∧ (compGo p l).Pairwise keyLt:=by
 induction l generalizing p with
 | nil=>exact ⟨fun x hx=>by simp [compGo] at hx,List.Pairwise.nil⟩
 | cons x r ih =>
  rw [List.pairwise_cons] at h
  obtain ⟨h1,h2⟩:=h
  obtain ⟨i1,i2⟩:=ih h2
  have hpx:=h1 x (by simp)
  unfold compGo
  by_cases hs : sameK x p = true
  ·rw [if_pos hs]
   obtain ⟨e1,e2⟩:=sameK_iff.1 hs
   refine ⟨fun y hy=>?_,i2⟩
   have:=i1 y hy
   unfold keyLt at *
   omega
  ·rw [if_neg hs]
   have hlt : keyLt p x:=by
    unfold keyLe at hpx
    unfold keyLt
    by_cases e : x.player = p.player ∧ x.seq = p.seq
    ·exact absurd (sameK_iff.2 e) hs
    ·omega
   refine ⟨fun y hy=>?_,List.pairwise_cons.2 ⟨i1,i2⟩⟩
   rcases List.mem_cons.1 hy with rfl|hy
   ·exact hlt
   ·have:=i1 y hy
    unfold keyLt at *
    omega
theorem comp_rises {l : List Order} (h : l.Pairwise keyLe) : (compO l).Pairwise keyLt:=by
 cases l with
 | nil=>exact List.Pairwise.nil
 | cons x r=>exact List.pairwise_cons.2 (compGo_rises h)
theorem sorted_rises (l : List Order) : (sortedL l).Pairwise keyLt:=comp_rises ((sortO_sorted l).imp fun h=>keyLe_of h)
theorem sorted_mem {l : List Order} {x : Order} (h : x ∈ sortedL l) : x ∈ l:=(sortO_perm l).mem_iff.1 ((comp_sub _).subset h)
theorem compGo_has {p : Order} {l : List Order} {y : Order} (h : y ∈ l) : (y.player = p.player ∧ y.seq = p.seq) ∨ ∃ z ∈ compGo p l,z.player = y.player ∧ z.seq = y.seq:=by
 induction l generalizing p with
 | nil=>cases h
 | cons x r ih =>
  unfold compGo
  by_cases hs : sameK x p = true
  ·rw [if_pos hs]
   obtain ⟨e1,e2⟩:=sameK_iff.1 hs
   rcases List.mem_cons.1 h with rfl|h
   ·exact .inl ⟨e1,e2⟩
   ·rcases ih (p:=x) h with ⟨a,b⟩|h
    ·exact .inl ⟨a.trans e1,b.trans e2⟩
    ·exact .inr h
  ·rw [if_neg hs]
   rcases List.mem_cons.1 h with rfl|h
   ·exact .inr ⟨y,by simp,rfl,rfl⟩
   ·rcases ih (p:=x) h with ⟨a,b⟩|⟨z,h1,h2⟩
    ·exact .inr ⟨x,by simp,a.symm,b.symm⟩
    ·exact .inr ⟨z,List.mem_cons_of_mem _ h1,h2⟩
theorem sorted_has {l : List Order} {y : Order} (h : y ∈ l) : ∃ z ∈ sortedL l,z.player = y.player ∧ z.seq = y.seq:=by
 have h2:=(sortO_perm l).mem_iff.2 h
 unfold sortedL
 cases hl : sortO l with
 | nil=>rw [hl] at h2;cases h2
 | cons x r =>
  rw [hl] at h2
  show ∃ z ∈ x :: compGo x r,_
  rcases List.mem_cons.1 h2 with rfl|h3
  ·exact ⟨y,by simp,rfl,rfl⟩
  ·rcases compGo_has (p:=x) h3 with ⟨a,b⟩|⟨z,q1,q2⟩
   ·exact ⟨x,by simp,a.symm,b.symm⟩
   ·exact ⟨z,List.mem_cons_of_mem _ q1,q2⟩
theorem compGo_self {p : Order} {l : List Order} (h : (p :: l).Pairwise keyLt) : compGo p l = l:=by
 induction l generalizing p with
 | nil=>rfl
 | cons x r ih =>
  rw [List.pairwise_cons] at h
  have hx:=h.1 x (by simp)
  unfold compGo
  rw [if_neg,ih h.2]
  intro hs
  obtain ⟨a,b⟩:=sameK_iff.1 hs
  unfold keyLt at hx
  omega
theorem sorted_self {l : List Order} (h : l.Pairwise keyLt) : sortedL l = l:=by
 unfold sortedL
 rw [sortO_self (h.imp fun q=>leO_of_key q)]
 cases l with
 | nil=>rfl
 | cons x r=>show x :: compGo x r = _;rw [compGo_self h]
theorem sortO_congr {l m : List Order} (h : l.Perm m) : sortO l = sortO m:=by
 refine List.Perm.eq_of_pairwise (le:=fun x y=>leO x y = true) ?_ (sortO_sorted l) (sortO_sorted m) ((sortO_perm l).trans (h.trans (sortO_perm m).symm))
 intro a b _ _ h1 h2
 unfold leO at h1 h2
 rw [Bool.not_eq_true'] at h1 h2
 exact ltO_total a b h2 h1
theorem compGo_min {p : Order} {l : List Order} (h : (p :: l).Pairwise (fun x y=>leO x y = true)) {z : Order} (hz : z ∈ compGo p l) : ∀ y ∈ p :: l,sameK y z = true → leO z y = true:=by
 induction l generalizing p with
 | nil=>cases hz
 | cons x r ih =>
  have hr:=(compGo_rises (h.imp fun q=>keyLe_of q)).1 z hz
  have hp : ∀ y,y = p → sameK y z = true → leO z y = true:=by
   rintro y rfl hs
   obtain ⟨a,b⟩:=sameK_iff.1 hs
   unfold keyLt at hr
   omega
  rw [List.pairwise_cons] at h
  intro y hy hs
  rcases List.mem_cons.1 hy with e|hy
  ·exact hp y e hs
  ·unfold compGo at hz
   by_cases hx : sameK x p = true
   ·rw [if_pos hx] at hz
    exact ih h.2 hz y hy hs
   ·rw [if_neg hx] at hz
    rcases List.mem_cons.1 hz with rfl|hz
    ·rcases List.mem_cons.1 hy with rfl|hy
     ·unfold leO;rw [swoO.irrefl];rfl
     ·exact (List.pairwise_cons.1 h.2).1 y hy
    ·exact ih h.2 hz y hy hs
theorem sorted_min {l : List Order} {z : Order} (hz : z ∈ sortedL l) : ∀ y ∈ l,sameK y z = true → leO z y = true:=by
 intro y hy hs
 have hs2:=sortO_sorted l
 have hy2:=(sortO_perm l).mem_iff.2 hy
 unfold sortedL at hz
 cases hl : sortO l with
 | nil=>rw [hl] at hy2;cases hy2
 | cons x r =>
  rw [hl] at hz hs2 hy2
  rcases List.mem_cons.1 (show z ∈ x :: compGo x r from hz) with rfl|hz
  ·rcases List.mem_cons.1 hy2 with rfl|hy3
   ·unfold leO;rw [swoO.irrefl];rfl
   ·exact (List.pairwise_cons.1 hs2).1 y hy3
  ·exact compGo_min hs2 hz y hy2 hs
theorem sorted_iff {l : List Order} {z : Order} : z ∈ sortedL l ↔ z ∈ l ∧ ∀ y ∈ l,sameK y z = true → leO z y = true:=by
 constructor
 ·exact fun h=>⟨sorted_mem h,sorted_min h⟩
 ·rintro ⟨h1,h2⟩
  obtain ⟨u,hu,a,b⟩:=sorted_has h1
  have e1:=h2 u (sorted_mem hu) (sameK_iff.2 ⟨a,b⟩)
  have e2:=sorted_min hu z h1 (sameK_iff.2 ⟨a.symm,b.symm⟩)
  unfold leO at e1 e2
  rw [Bool.not_eq_true'] at e1 e2
  rw [ltO_total z u e2 e1]
  exact hu
theorem rises_nodup {l : List Order} (h : l.Pairwise keyLt) : l.Nodup:=h.imp fun q e=>by
 subst e
 unfold keyLt at q
 omega
theorem rises_same {a b : List Order} (ha : a.Pairwise keyLt) (hb : b.Pairwise keyLt) (h : ∀ x,x ∈ a ↔ x ∈ b) : a = b:=by
 refine List.Perm.eq_of_pairwise (le:=keyLt) ?_ ha hb ((List.perm_ext_iff_of_nodup (rises_nodup ha) (rises_nodup hb)).2 h)
 intro x y _ _ h1 h2
 unfold keyLt at h1 h2
 omega
theorem sorted_ext {l m : List Order} (h : ∀ x,x ∈ l ↔ x ∈ m) : sortedL l = sortedL m:=
 rises_same (sorted_rises l) (sorted_rises m) fun x=>by rw [sorted_iff,sorted_iff,h x];exact ⟨fun q=>⟨q.1,fun y hy=>q.2 y ((h y).2 hy)⟩,fun q=>⟨q.1,fun y hy=>q.2 y ((h y).1 hy)⟩⟩
theorem compGo_snoc (p : Order) (r : List Order) (y : Order) : compGo p (r ++ [y]) = compGo p r ++ (if sameK y ((p :: r).getLast (by simp)) = true then [] else [y]):=by
 induction r generalizing p with
 | nil=>show (if sameK y p = true then [] else [y]) = [] ++ _;rfl
 | cons x r ih =>
  rw [List.getLast_cons (by simp : x :: r ≠ [])]
  show (if sameK x p = true then compGo x (r ++ [y]) else x :: compGo x (r ++ [y])) = (if sameK x p = true then compGo x r else x :: compGo x r) ++ _
  rw [ih x]
  by_cases hs : sameK x p = true
  ·rw [if_pos hs,if_pos hs]
  ·rw [if_neg hs,if_neg hs];rfl
theorem compO_snoc {l : List Order} (h : l ≠ []) (y : Order) : compO (l ++ [y]) = compO l ++ (if sameK y (l.getLast h) = true then [] else [y]):=by
 cases l with
 | nil=>exact absurd rfl h
 | cons p r =>
  show p :: compGo p (r ++ [y]) = p :: (compGo p r ++ _)
  rw [compGo_snoc]
theorem comp_next {l : List Order} {j : Nat} (h0 : 0 < j) (h : j < l.length) {y z : Order} (hy : l[j]? = some y) (hz : l[j - 1]? = some z) :
  compO (l.take (j + 1)) = compO (l.take j) ++ (if sameK y z = true then [] else [y]):=by
 have hne : l.take j ≠ []:=by
  intro e
  have : (l.take j).length = 0:=by rw [e];rfl
  rw [List.length_take] at this
  omega
 rw [List.take_add_one,hy]
 show compO (l.take j ++ [y]) = _
 rw [compO_snoc hne]
 have e : (l.take j).getLast hne = z:=by
  rw [List.getLast_eq_getElem]
  have h2 : (l.take j)[j - 1]? = some z:=by rw [List.getElem?_take_of_lt (by omega)];exact hz
  have h3 : (l.take j).length - 1 = j - 1:=by rw [List.length_take];omega
  rw [List.getElem_eq_iff,h3]
  exact h2
 rw [e]
theorem comp_le (l : List Order) : (compO l).length ≤ l.length:=(comp_sub l).length_le
theorem sortO_length (l : List Order) : (sortO l).length = l.length:=(sortO_perm l).length_eq
theorem sortedL_le (l : List Order) : (sortedL l).length ≤ l.length:=Nat.le_trans (comp_le _) (by rw [sortO_length];exact Nat.le_refl _)
open Go Go.RowKit Eng
abbrev withT (w : Wld) (t : Int) : Wld:={ w with tick:=t }
section
variable {w : Wld} (hR : RW w) {t : Int} (ht : 0 ≤ t ∧ t ≤ 1099511627776)
include hR ht
theorem right_T : RW (withT w t):=by
 refine ⟨?_,hR.chunks,hR.rc,hR.rp,hR.players⟩
 have h1:=hR.size
 simp only [headW,Bool.and_eq_true,decide_eq_true_eq]
 exact ⟨h1.1,h1.2.1,ht.1,ht.2,by omega⟩
theorem player_T (id : Int) : playerW (withT w t) id = playerW w id:=by
 rw [playerW_get (right_T hR ht),playerW_get hR]
theorem chunk_T (x y : Int) : chunkW (withT w t) x y = chunkW w x y:=by
 unfold chunkW;rw [rightW_iff.2 (right_T hR ht),rightW_iff.2 hR]
theorem at_T (x y : Int) : atW (withT w t) x y = atW w x y:=by
 unfold atW;simp only [chunk_T hR ht]
theorem put_T (k : Chunk) : putW (withT w t) k = (withT (putW w k).1 t,(putW w k).2):=by
 unfold putW
 rw [rightW_iff.2 (right_T hR ht),rightW_iff.2 hR]
 simp only [Bool.true_eq_false,if_false]
 by_cases h1 : w.size ≤ max k.x k.y ∨ rightB k = false
 ·rw [if_pos h1,if_pos h1]
 ·rw [if_neg h1,if_neg h1]
  by_cases h2 : plainW w.seed k = true
  ·rw [if_pos h2,if_pos h2];rfl
  ·rw [if_neg h2,if_neg h2];rfl
theorem set_T (p : Player) : setW (withT w t) p = (withT (setW w p).1 t,(setW w p).2):=by
 unfold setW
 rw [rightW_iff.2 (right_T hR ht),rightW_iff.2 hR]
 simp only [Bool.true_eq_false,if_false]
 by_cases h1 : soundB p = false ∨ withinW w.size p.x p.y = false
 ·rw [if_pos h1,if_pos h1]
 ·rw [if_neg h1,if_neg h1]
  by_cases h2 : (getK pid w.players p.id).isSome = true
  ·rw [if_pos h2,if_pos h2];rfl
  ·rw [if_neg h2,if_neg h2]
   by_cases h3 : 32 ≤ w.players.length
   ·rw [if_pos h3,if_pos h3]
   ·rw [if_neg h3,if_neg h3];rfl
omit ht in
theorem put_rw2 (k : Chunk) : RW (putW w k).1:=by
 rcases put_err w k with ⟨_,h1,h2,h3⟩|⟨h,_⟩
 ·rw [put_eq hR h1 h2];exact rw_put hR h1 h2
 ·rw [h];exact hR
omit ht in
theorem set_rw2 (p : Player) : RW (setW w p).1:=by
 rcases set_err w p with ⟨h,_⟩|⟨h,_⟩
 ·rw [set_eq h];exact rw_set h
 ·rw [h];exact hR
theorem keep_T (k : Chunk) (p : Player) : keepA (withT w t) k p = (withT (keepA w k p).1 t,(keepA w k p).2):=by
 unfold keepA
 rw [put_T hR ht]
 dsimp only
 by_cases h : ¬ (putW w k).2 = 0
 ·rw [if_pos h,if_pos h]
 ·rw [if_neg h,if_neg h]
  exact set_T (put_rw2 hR k) ht p
theorem move_T (p : Player) (c : Cmd) : moveA (withT w t) p c = (withT (moveA w p c).1 t,(moveA w p c).2):=by
 unfold moveA
 simp only [at_T hR ht,set_T hR ht]
 (repeat' split)<;>rfl
theorem break_T (p : Player) (c : Cmd) : breakA (withT w t) p c = (withT (breakA w p c).1 t,(breakA w p c).2):=by
 unfold breakA placeC aimE
 simp only [chunk_T hR ht,keep_T hR ht]
 (repeat' split)<;>rfl
theorem place_T (p : Player) (c : Cmd) : placeA (withT w t) p c = (withT (placeA w p c).1 t,(placeA w p c).2):=by
 unfold placeA placeC aimE
 simp only [chunk_T hR ht,keep_T hR ht]
 (repeat' split)<;>rfl
theorem take_T (p : Player) : takeA (withT w t) p = (withT (takeA w p).1 t,(takeA w p).2):=by
 unfold takeA placeC
 simp only [chunk_T hR ht,keep_T hR ht]
 (repeat' split)<;>rfl
theorem drop_T (p : Player) (c : Cmd) : dropA (withT w t) p c = (withT (dropA w p c).1 t,(dropA w p c).2):=by
 unfold dropA placeC
 simp only [chunk_T hR ht,keep_T hR ht]
 (repeat' split)<;>rfl
theorem store_T (p : Player) (c : Cmd) : storeA (withT w t) p c = (withT (storeA w p c).1 t,(storeA w p c).2):=by
 unfold storeA placeC aimE
 simp only [chunk_T hR ht,keep_T hR ht]
 generalize chunkW w (c.a / 8) (c.b / 8) = K
 by_cases h1 : ¬ (if withinW w.size c.a c.b = false then 102 else if nearP p c.a c.b = false then 106 else (0 : Int)) = 0
 ·rw [if_pos h1,if_pos h1]
 ·rw [if_neg h1,if_neg h1]
  by_cases h2 : (boxC K.1 (placeI c.a c.b)).2 = false
  ·rw [if_pos h2,if_pos h2]
  ·rw [if_neg h2,if_neg h2]
   generalize (if c.dol = 7 then movedA p.bag (boxC K.1 (placeI c.a c.b)).1 c.c c.n else movedA (boxC K.1 (placeI c.a c.b)).1 p.bag c.c c.n) = M
   by_cases h3 : ¬ M.2.2 = 0
   ·rw [if_pos h3,if_pos h3]
   ·rw [if_neg h3,if_neg h3]
    generalize fillC K.1 (placeI c.a c.b) (if c.dol = 7 then M.2.1 else M.1) = F
    by_cases h4 : ¬ F.2 = 0
    ·rw [if_pos h4,if_pos h4]
    ·rw [if_neg h4,if_neg h4]
theorem craft_T (p : Player) (c : Cmd) : craftA (withT w t) p c = (withT (craftA w p c).1 t,(craftA w p c).2):=by
 unfold craftA
 simp only [set_T hR ht]
 (repeat' split)<;>rfl
theorem eat_T (p : Player) : eatA (withT w t) p = (withT (eatA w p).1 t,(eatA w p).2):=by
 unfold eatA
 simp only [set_T hR ht]
 (repeat' split)<;>rfl
theorem deal_T (p : Player) (c : Cmd) : dealA (withT w t) p c = (withT (dealA w p c).1 t,(dealA w p c).2):=by
 unfold dealA
 simp only [player_T hR ht,set_T hR ht]
 generalize playerW w (if c.dol = 11 then c.a else p.wth) = Q
 by_cases h1 : Q.2 = false
 ·rw [if_pos h1,if_pos h1]
 ·rw [if_neg h1,if_neg h1]
  by_cases h2 : ¬ c.dol = 13 ∧ nearP p Q.1.x Q.1.y = false
  ·rw [if_pos h2,if_pos h2]
  ·rw [if_neg h2,if_neg h2]
   generalize (if c.dol = 11 then offerP p Q.1 c.c c.n else if c.dol = 12 then ((agreeP p Q.1).1,(agreeP p Q.1).2.1,(agreeP p Q.1).2.2.2) else cancelP p Q.1) = r
   by_cases h3 : ¬ r.2.2 = 0
   ·rw [if_pos h3,if_pos h3]
   ·rw [if_neg h3,if_neg h3]
    by_cases h4 : ¬ (setW w r.2.1).2 = 0
    ·rw [if_pos h4,if_pos h4]
    ·rw [if_neg h4,if_neg h4]
     exact set_T (set_rw2 hR r.2.1) ht r.1
theorem act_T (p : Player) (c : Cmd) : actA (withT w t) p c = (withT (actA w p c).1 t,(actA w p c).2):=by
 unfold actA
 simp only [move_T hR ht,break_T hR ht,place_T hR ht,take_T hR ht,drop_T hR ht,store_T hR ht,craft_T hR ht,eat_T hR ht,deal_T hR ht]
 (repeat' split)<;>rfl
theorem apply_T (id : Int) (c : Cmd) : applyW (withT w t) id c = (withT (applyW w id c).1 t,(applyW w id c).2):=by
 unfold applyW
 rw [rightW_iff.2 (right_T hR ht),rightW_iff.2 hR]
 simp only [Bool.true_eq_false,if_false,player_T hR ht,act_T hR ht,set_T hR ht]
 (repeat' split)<;>rfl
end
theorem apply_tick {w : Wld} (hR : RW w) (id : Int) (c : Cmd) : (applyW w id c).1.tick = w.tick:=by
 have h:=hR.size
 have e:=apply_T hR (t:=w.tick) ⟨h.2.2.1,h.2.2.2.1⟩ id c
 have e2:=congrArg (fun r=>r.1.tick) e
 exact e2
def stepW (w : Wld) (o : Order) : Wld × Int:=applyW w o.player o.cmd
def runW : Wld → List Order → Wld × List Reply
 | w,[]=>(w,[])
 | w,o :: r=>((runW (stepW w o).1 r).1,⟨o.player,o.seq,(stepW w o).2⟩ :: (runW (stepW w o).1 r).2)
theorem step_rw {w : Wld} (hR : RW w) (o : Order) : RW (stepW w o).1:=apply_rw (rightW_iff.2 hR)
theorem run_rw {l : List Order} : ∀ {w : Wld},RW w → RW (runW w l).1:=by
 induction l with
 | nil=>intro w h;exact h
 | cons o r ih=>intro w h;exact ih (step_rw h o)
theorem run_tick {l : List Order} : ∀ {w : Wld},RW w → (runW w l).1.tick = w.tick:=by
 induction l with
 | nil=>intro w h;rfl
 | cons o r ih =>
  intro w h
  show (runW (stepW w o).1 r).1.tick = w.tick
  rw [ih (step_rw h o)]
  exact apply_tick h _ _
theorem run_app (a b : List Order) : ∀ w : Wld,runW w (a ++ b) = ((runW (runW w a).1 b).1,(runW w a).2 ++ (runW (runW w a).1 b).2):=by
 induction a with
 | nil=>intro w;rfl
 | cons o r ih =>
  intro w
  show ((runW (stepW w o).1 (r ++ b)).1,_ :: (runW (stepW w o).1 (r ++ b)).2) = _
  rw [ih];rfl
theorem run_len {l : List Order} : ∀ {w : Wld},(runW w l).2.length = l.length:=by
 induction l with
 | nil=>intro w;rfl
 | cons o r ih=>intro w;show (runW (stepW w o).1 r).2.length + 1 = r.length + 1;rw [ih]
theorem run_take_succ (w : Wld) {l : List Order} {k : Nat} {o : Order} (h : l[k]? = some o) :
  runW w (l.take (k + 1)) = ((stepW (runW w (l.take k)).1 o).1,(runW w (l.take k)).2 ++ [⟨o.player,o.seq,(stepW (runW w (l.take k)).1 o).2⟩]):=by
 rw [List.take_add_one,h,Option.toList_some,run_app];rfl
def foldW (w : Wld) (l : List Order) : Wld × List Reply × Int:=
 if 1099511627776 ≤ w.tick ∨ rightW w = false then (w,[],113) else if 200 < l.length then (w,[],3)
 else (withT (runW w (sortedL l)).1 ((runW w (sortedL l)).1.tick + 1),(runW w (sortedL l)).2,0)
theorem fold_good {w : Wld} (hR : RW w) (ht : w.tick < 1099511627776) {l : List Order} (hl : l.length ≤ 200) : foldW w l = (withT (runW w (sortedL l)).1 (w.tick + 1),(runW w (sortedL l)).2,0):=by
 unfold foldW
 rw [if_neg (by rw [rightW_iff.2 hR];simp;omega),if_neg (by omega),run_tick hR]
theorem fold_cases (w : Wld) (l : List Order) : (¬ (foldW w l).2.2 = 0 ∧ (foldW w l).1 = w ∧ (foldW w l).2.1 = []) ∨ (RW w ∧ w.tick < 1099511627776 ∧ l.length ≤ 200 ∧ foldW w l = (withT (runW w (sortedL l)).1 (w.tick + 1),(runW w (sortedL l)).2,0)):=by
 by_cases h1 : 1099511627776 ≤ w.tick ∨ rightW w = false
 ·left;unfold foldW;rw [if_pos h1];exact ⟨by simp,rfl,rfl⟩
 ·by_cases h2 : 200 < l.length
  ·left;unfold foldW;rw [if_neg h1,if_pos h2];exact ⟨by simp,rfl,rfl⟩
  ·right
   have hR : rightW w = true:=by
    cases h : rightW w with
    | true=>rfl
    | false=>exact absurd (.inr h) h1
   exact ⟨rightW_iff.1 hR,by omega,by omega,fold_good (rightW_iff.1 hR) (by omega) (by omega)⟩
theorem fold_rw {w : Wld} (hR : RW w) (l : List Order) : RW (foldW w l).1:=by
 rcases fold_cases w l with ⟨_,h,_⟩|⟨_,ht,_,h⟩
 ·rw [h];exact hR
 ·rw [h];exact right_T (run_rw hR) ⟨by have:=hR.size;omega,by omega⟩
end Go.Proofs.YtkojlembanldcaaGreat
