/- Contracts of players and worlds. -/
import Derived.Test.YtkojlembanldcaaGreatGd
set_option linter.unusedSimpArgs false
set_option linter.unusedVariables false
set_option maxRecDepth 100000
set_option maxHeartbeats 16000000
namespace Go.Proofs.YtkojlembanldcaaGreat
open Go Go.RowKit Eng
structure OkP (p : Player) : Prop where
 bag : ∀ s ∈ p.bag,aQ s
 offer : ∀ s ∈ p.offer,aQ s
 nb : p.bag.length * 16 ≤ 140737488351232
 no : p.offer.length * 16 ≤ 140737488351232
abbrev B4 (p : Player) : List AV:=[i64 p.id,i64 p.x,i64 p.y,.vec .slot p.bag,i64 p.wth,.vec .slot p.offer,bol p.agrees]
abbrev aw (p : Player) : AV:=.agg [i64 p.id,i64 p.x,i64 p.y,.vec .slot p.bag,i64 p.wth,.vec .slot p.offer,bol p.agrees]
theorem mT (p : Player) (hp : OkP p) : Api Tryz.prog 61 [aw p] (aw p):=by
 have h1:=hp.nb
 have h2:=hp.no
 refine aF Tryz.func61 11 ?_
 conv=>whnf
 repeat' (first|exact trivial|((first|refine kL ?_|(refine ⟨fun hb=>?_,fun hb=>?_⟩<;>(try simp only [nrm] at hb)<;>try exact kZ hb)|(refine isE 121 ?_;refine kA (a8 p.bag (by omega)) ?_)|(refine isD 121 ?_;refine kD (a8 p.bag (by omega)) ?_)|(refine isE 121 ?_;refine kA (a8 p.offer (by omega)) ?_)|(refine isD 121 ?_;refine kD (a8 p.offer (by omega)) ?_)|refine kV ?_)<;>(conv=>whnf))|refine kY ?_ ?_)
theorem iW (p : Player) (hp : OkP p) : Api Tryz.prog 209 [aw p] (aw p):=by
 have h1:=hp.nb
 have h2:=hp.no
 refine aF Tryz.func209 11 ?_
 conv=>whnf
 repeat' (first|exact trivial|((first|refine kL ?_|(refine ⟨fun hb=>?_,fun hb=>?_⟩<;>(try simp only [nrm] at hb)<;>try exact kZ hb)|(refine isE 121 ?_;refine kA (a8 p.bag (by omega)) ?_)|(refine isD 121 ?_;refine kD (a8 p.bag (by omega)) ?_)|(refine isE 121 ?_;refine kA (a8 p.offer (by omega)) ?_)|(refine isD 121 ?_;refine kD (a8 p.offer (by omega)) ?_)|refine kV ?_)<;>(conv=>whnf))|refine kY ?_ ?_)
def jL (l : List aa) : Bool:=decide ((l.length : Int) = 8) && an l
def a7 (p : Player) : Bool:=
 decide (0 ≤ p.id) && (decide (p.id ≤ 1073741824) && (jL p.bag && (if p.wth = -1 then decide ((p.offer.length : Int) = 0) && !p.agrees
  else decide (0 ≤ p.wth) && (decide (p.wth ≤ 1073741824) && (!(decide (p.wth = p.id)) && jL p.offer)))))
theorem vP (p : Player) (hp : OkP p) : Api Tryz.prog 99 [aw p] (bol (a7 p)):=by
 have h1:=fU p.bag 8 (by have:=hp.nb;unfold big;omega) hp.bag
 have h2:=fU p.offer 8 (by have:=hp.no;unfold big;omega) hp.offer
 have h3:=hp.no
 change Api _ _ _ (bol (jL p.bag)) at h1
 change Api _ _ _ (bol (jL p.offer)) at h2
 unfold a7
 generalize jL p.bag = b1 at *
 generalize jL p.offer = b2 at *
 cases b1<;>cases b2<;>cases hag : p.agrees
 all_goals
  refine aF Tryz.func99 48 ?_
  conv=>whnf
  repeat' (first|exact trivial|((first|(refine ⟨fun hb=>?_,fun hb=>?_⟩<;>(try simp only [nrm] at hb)<;>try exact kZ hb)|refine kV ?_)<;>(conv=>whnf))|refine kY ?_ ?_)
  all_goals first
   | (refine congrArg Value.bool ?_;simp;done)
   | (refine congrArg Value.bool ?_;simp;omega)
   | (refine congrArg Value.bool ?_;simp [*];done)
   | (refine congrArg Value.bool ?_;simp [*];omega)
   | (refine congrArg Value.bool ?_;simp_all;done)
   | (refine congrArg Value.bool ?_;simp_all;omega)
   | (simp_all;done)
   | trace_state
theorem Db (p : Player) (hp : OkP p) : Api Tryz.prog 33 [aw p,aw p] (bol true):=by
 have h1:=kO p.bag p.bag (by have:=hp.nb;unfold big;omega)
 have h2:=kO p.offer p.offer (by have:=hp.no;unfold big;omega)
 rw [jJ rfl (fun i _=>by simp [gU])] at h1 h2
 refine aF Tryz.func33 50 ?_
 exact fD0
open Go Go.RowKit Eng
structure Wld where
 size : Int
 seed : Int
 tick : Int
 chunks : List Chunk
 players : List Player
abbrev bA (w : Wld) : List AV:=[i64 w.size,.lit (.int .u64 w.seed),i64 w.tick,.vec .chunk w.chunks,.vec .player w.players]
abbrev az (w : Wld) : AV:=.agg [i64 w.size,.lit (.int .u64 w.seed),i64 w.tick,.vec .chunk w.chunks,.vec .player w.players]
structure OkW (w : Wld) : Prop where
 chunks : ∀ c ∈ w.chunks,OkC c
 fit : ∀ c ∈ w.chunks,fH c
 players : ∀ p ∈ w.players,OkP p
 nc : w.chunks.length * 88 ≤ 140737488351232
 np : w.players.length * 88 ≤ 140737488351232
def wr8 (z : Int) : Int:=IntKind.i64.wrap (8 * z)
theorem pI {z : Int} (h : 0 ≤ z) (h2 : z ≤ 1000) : wr8 z = 8 * z:=by unfold wr8;rw [IntWalk.i64_left];exact IntWalk.wrap64_in _ (by omega)
def av (size x y : Int) : Bool:=decide (0 ≤ min x y) && decide (max x y < wr8 size)
theorem lc (w : Wld) (x y : Int) : Api Tryz.prog 77 [az w,i64 x,i64 y] (bol (av w.size x y)):=by
 refine aF Tryz.func77 17 ?_
 conv=>whnf
 repeat' (first|exact trivial|((first|refine kL ?_|(refine ⟨fun hb=>?_,fun hb=>?_⟩<;>(try simp only [nrm] at hb)<;>try exact kZ hb)|(refine .inr ?_)|refine kV ?_)<;>(conv=>whnf))|refine kY ?_ ?_)
 all_goals (refine congrArg Value.bool ?_;unfold av;first|(rw [decide_eq_true hb,Bool.true_and];rfl)|(rw [decide_eq_false (Int.not_le.2 hb),Bool.false_and]))
def ot (a b : Int) : Int:=if a = 0 then b else a
theorem xm (a b : Int) : Ev1 Tryz.prog 104 [.own .i64 1 0 2 (some 2)] [(1,.row .i64 [a,b])] (i64 (ot a b)) [(1,.row .i64 [a,b])]:=by
 refine eF Tryz.func104 17 ?_
 conv=>whnf
 refine ap.loopS ah (σ:=Nat) [3,6,7,8] (fun k=>[i64 0,.own .i64 1 0 2 none,i64 2,i64 k]) (fun _=>[(1,.row .i64 [a,b])]) (fun k=>k ≤ 2 ∧ (0 < k → a = 0) ∧ (1 < k → b = 0)) (fun k=>2 - k) 0 (by omega) ?_ ?_
 ·exact fD0
 ·rintro k ⟨hk,h1,h2⟩
  match k,hk with
  | 0,_ =>
   conv=>whnf
   repeat' (first|exact trivial|((first|(refine ⟨fun hb=>?_,fun hb=>?_⟩<;>(try simp only [nrm] at hb)<;>try exact kZ hb)|refine kV ?_)<;>(conv=>whnf))|refine kY ?_ ?_)
   ·have hb' : ¬ a = 0:=hb
    unfold ot;rw [if_neg hb'];rfl
   ·have hb' : a = 0:=hb
    refine .to 1 ⟨by omega,fun _=>hb',by omega⟩ (by omega) ?_
    exact fD0
  | 1,_ =>
   have h1':=h1 (by omega)
   conv=>whnf
   repeat' (first|exact trivial|((first|(refine ⟨fun hb=>?_,fun hb=>?_⟩<;>(try simp only [nrm] at hb)<;>try exact kZ hb)|refine kV ?_)<;>(conv=>whnf))|refine kY ?_ ?_)
   ·unfold ot;rw [if_pos h1'];rfl
   ·have hb' : b = 0:=hb
    refine .to 2 ⟨by omega,fun _=>h1',fun _=>hb'⟩ (by omega) ?_
    exact fD0
  | 2,_ =>
   have h1':=h1 (by omega)
   have h2':=h2 (by omega)
   conv=>whnf
   repeat' (first|exact trivial|((first|(refine ⟨fun hb=>?_,fun hb=>?_⟩<;>(try simp only [nrm] at hb)<;>try exact kZ hb)|refine kV ?_)<;>(conv=>whnf))|refine kY ?_ ?_)
   all_goals (unfold ot;rw [if_pos h1',h2'])
def dQ (a b : Chunk) : Int:=ot (bX a.y b.y) (bX a.x b.x)
theorem vQ (a b : Chunk) : Api Tryz.prog 94 [.agg (cells .chunk a),.agg (cells .chunk b)] (i64 (dQ a b)):=by
 refine aF Tryz.func94 15 ?_
 conv=>whnf
 repeat' (first|exact trivial|((first|refine kL ?_|(refine ⟨fun hb=>?_,fun hb=>?_⟩<;>(try simp only [nrm] at hb)<;>try exact kZ hb)|(refine isE 104 ?_;refine kE (xm (bX a.y b.y) (bX a.x b.x)) [(1,31)] rfl ?_)|(refine isD 104 ?_;refine kF (xm (bX a.y b.y) (bX a.x b.x)) [(1,31)] rfl ?_)|(refine isE 105 ?_;refine kA (fl _ _) ?_)|(refine isD 105 ?_;refine kD (fl _ _) ?_)|refine kV ?_)<;>(conv=>whnf))|refine kY ?_ ?_)
theorem yN (a b : Player) : Api Tryz.prog 96 [.agg (cells .player a),.agg (cells .player b)] (i64 (bX a.id b.id)):=by
 refine aF Tryz.func96 8 ?_
 conv=>whnf
 repeat' (first|exact trivial|((first|refine kL ?_|(refine ⟨fun hb=>?_,fun hb=>?_⟩<;>(try simp only [nrm] at hb)<;>try exact kZ hb)|(refine isE 105 ?_;refine kA (fl _ _) ?_)|(refine isD 105 ?_;refine kD (fl _ _) ?_)|refine kV ?_)<;>(conv=>whnf))|refine kY ?_ ?_)
def cM {α : Type} (o : α → α → Int) : List α → Bool
 | a :: b :: r=>decide (o a b < 0) && cM o (b :: r)
 | _=>true
theorem pJ {tt : Ty} {o : El tt → El tt → Int} {l : List (El tt)} {k : Nat} (h : k + 1 < l.length) : cM o (l.drop k) = (decide (o (elt tt l k) (elt tt l (k + 1)) < 0) && cM o (l.drop (k + 1))):=by
 rw [aY (i:=k) (by omega),aY (i:=k + 1) h]
 rfl
theorem rK {α : Type} {o : α → α → Int} {l : List α} {k : Nat} (h : l.length ≤ k + 1) : cM o (l.drop k) = true:=by
 have : (l.drop k).length ≤ 1:=by rw [List.length_drop];omega
 match l.drop k,this with
 | [],_=>rfl
 | [a],_=>rfl
theorem Aw (l : List (El .chunk)) (hl : l.length ≤ 9000000000000000000) : Api Tryz.prog 93 [.vec .chunk l,.lit (.func (.func 94) #[] #[])] (bol (cM dQ l)):=by
 refine aF Tryz.func93 22 ?_
 conv=>whnf
 refine ap.loopS ah (σ:=Nat) [0,1,5] (fun k=>[.vec .chunk l,.lit (.func (.func 94) #[] #[]),i64 ((k : Int) + 1)]) (fun _=>[]) (fun k=>k ≤ l.length ∧ cM dQ (l.drop k) = cM dQ l) (fun k=>l.length - k) 0 ⟨by omega,rfl⟩ ?_ ?_
 ·exact fD0
 ·rintro k ⟨hk,hr⟩
  by_cases hlt : k + 1 < l.length
  ·rw [pJ (tt:=.chunk) hlt] at hr
   conv=>whnf
   repeat' (first|exact trivial|((first|refine kL ?_|(refine ⟨fun hb=>?_,fun hb=>?_⟩<;>(try simp only [nrm] at hb)<;>try exact kZ hb)|(refine isE 94 ?_;refine kA (vQ _ _) ?_)|(refine isD 94 ?_;refine kD (vQ _ _) ?_)|refine kV ?_)<;>(conv=>whnf))|refine kY ?_ ?_)
   all_goals rw [show ((k : Int) + 1 - 1).toNat = k by omega,show ((k : Int) + 1).toNat = k + 1 by omega] at hb
   ·have hb2 : 0 ≤ dQ (elt .chunk l k) (elt .chunk l (k + 1)):=hb
    rw [← hr,decide_eq_false (by omega)];rfl
   ·have hb2 : dQ (elt .chunk l k) (elt .chunk l (k + 1)) < 0:=hb
    rw [decide_eq_true hb2,Bool.true_and] at hr
    refine .to (k + 1) ⟨by omega,hr⟩ (by omega) ?_
    exact fD0
  ·rw [rK (by omega)] at hr
   conv=>whnf
   repeat' (first|exact trivial|((first|(refine ⟨fun hb=>?_,fun hb=>?_⟩<;>(try simp only [nrm] at hb)<;>try exact kZ hb)|refine kV ?_)<;>(conv=>whnf))|refine kY ?_ ?_)
   rw [← hr]
def idI (a b : Player) : Int:=bX a.id b.id
theorem Ax (l : List (El .player)) (hl : l.length ≤ 9000000000000000000) : Api Tryz.prog 95 [.vec .player l,.lit (.func (.func 96) #[] #[])] (bol (cM idI l)):=by
 refine aF Tryz.func95 22 ?_
 conv=>whnf
 refine ap.loopS ah (σ:=Nat) [0,1,5] (fun k=>[.vec .player l,.lit (.func (.func 96) #[] #[]),i64 ((k : Int) + 1)]) (fun _=>[]) (fun k=>k ≤ l.length ∧ cM idI (l.drop k) = cM idI l) (fun k=>l.length - k) 0 ⟨by omega,rfl⟩ ?_ ?_
 ·exact fD0
 ·rintro k ⟨hk,hr⟩
  by_cases hlt : k + 1 < l.length
  ·rw [pJ (tt:=.player) hlt] at hr
   conv=>whnf
   repeat' (first|exact trivial|((first|refine kL ?_|(refine ⟨fun hb=>?_,fun hb=>?_⟩<;>(try simp only [nrm] at hb)<;>try exact kZ hb)|(refine isE 96 ?_;refine kA (yN _ _) ?_)|(refine isD 96 ?_;refine kD (yN _ _) ?_)|refine kV ?_)<;>(conv=>whnf))|refine kY ?_ ?_)
   all_goals rw [show ((k : Int) + 1 - 1).toNat = k by omega,show ((k : Int) + 1).toNat = k + 1 by omega] at hb
   ·have hb2 : 0 ≤ idI (elt .player l k) (elt .player l (k + 1)):=hb
    rw [← hr,decide_eq_false (by omega)];rfl
   ·have hb2 : idI (elt .player l k) (elt .player l (k + 1)) < 0:=hb
    rw [decide_eq_true hb2,Bool.true_and] at hr
    refine .to (k + 1) ⟨by omega,hr⟩ (by omega) ?_
    exact fD0
  ·rw [rK (by omega)] at hr
   conv=>whnf
   repeat' (first|exact trivial|((first|(refine ⟨fun hb=>?_,fun hb=>?_⟩<;>(try simp only [nrm] at hb)<;>try exact kZ hb)|refine kV ?_)<;>(conv=>whnf))|refine kY ?_ ?_)
   rw [← hr]
theorem sK {l : List Player} : cM idI l = true ↔ bi (·.id) l:=by
 induction l with
 | nil=>simp [cM,bi]
 | cons a r ih =>
  cases r with
  | nil=>simp [cM,bi]
  | cons b r =>
   simp only [cM,Bool.and_eq_true,decide_eq_true_eq,ih,idI,u6]
   constructor
   ·rintro ⟨h1,h2⟩
    refine ⟨fun x hx=>?_,h2⟩
    rcases List.mem_cons.1 hx with rfl|hx
    ·exact h1
    ·have:=h2.1 x hx;simp only at this ⊢;omega
   ·rintro ⟨h1,h2⟩
    exact ⟨h1 b (by simp),h2⟩
def aI (c : Chunk) : Int:=16 * c.y + c.x
theorem vR {l : List Chunk} (hb : ∀ c ∈ l,0 ≤ c.x ∧ c.x < 16) : cM dQ l = true ↔ bi aI l:=by
 induction l with
 | nil=>simp [cM,bi]
 | cons a r ih =>
  cases r with
  | nil=>simp [cM,bi]
  | cons b r =>
   have hab : dQ a b < 0 ↔ aI a < aI b:=by
    have h1:=hb a (by simp)
    have h2:=hb b (by simp)
    unfold dQ ot bX aI
    (repeat' split)<;>omega
   simp only [cM,Bool.and_eq_true,decide_eq_true_eq,ih (fun c hc=>hb c (by simp [hc])),hab]
   constructor
   ·rintro ⟨h1,h2⟩
    refine ⟨fun x hx=>?_,h2⟩
    rcases List.mem_cons.1 hx with rfl|hx
    ·exact h1
    ·have:=h2.1 x hx;omega
   ·rintro ⟨h1,h2⟩
    exact ⟨h1 b (by simp),h2⟩
def gA (size : Int) (c : Chunk) : Bool:=decide (size ≤ max c.x c.y) || !(ai c)
theorem Dc (w : Wld) (c : Chunk) (hc : OkC c) : Ev1 Tryz.prog 90 [.agg (cells .chunk c),.ptr 0 0] [(0,.box (bA w))] (bol (gA w.size c)) [(0,.box (bA w))]:=by
 have h1:=gp c hc
 unfold gA
 cases hR : ai c
 all_goals
  rw [hR] at h1
  refine eF Tryz.func90 15 ?_
  conv=>whnf
  repeat' (first|exact trivial|((first|(refine ⟨fun hb=>?_,fun hb=>?_⟩<;>(try simp only [nrm] at hb)<;>try exact kZ hb)|refine kV ?_)<;>(conv=>whnf))|refine kY ?_ ?_)
  all_goals (refine congrArg Value.bool ?_;first|rfl|(rw [decide_eq_true hb];rfl)|(rw [decide_eq_false (by omega)];rfl)|(simp;omega))
theorem vS (w : Wld) (l : List (El .chunk)) (hl : l.length ≤ big) (hw : ∀ s ∈ l,OkC s) : Ev1 Tryz.prog 177 [.vec .chunk l,.clo (.func 90) [] [.ptr 0 0]] [(0,.box (bA w))] (i64 (b8 (gA w.size) l 0)) [(0,.box (bA w))]:=by
 unfold big at hl
 refine eF Tryz.func177 17 ?_
 conv=>whnf
 refine ap.loopS ah (σ:=Nat) [0,1,7,8] (fun k=>[.vec .chunk l,.clo (.func 90) [] [.ptr 0 0],i64 l.length,i64 k]) (fun _=>[(0,.box (bA w))]) (fun k=>k ≤ l.length ∧ b8 (gA w.size) (l.drop k) k = b8 (gA w.size) l 0) (fun k=>l.length - k) 0 ⟨by omega,rfl⟩ ?_ ?_
 ·exact fD0
 ·intro k ⟨hk,he⟩
  by_cases hlt : k < l.length
  ·rw [aY hlt] at he
   simp only [b8] at he
   have hcl:=Dc w _ (hw _ (fG (t:=.chunk) (i:=(k : Int)) (by omega) (by omega)))
   rw [Int.toNat_natCast] at hcl
   cases hP : (gA w.size) (elt .chunk l k) with
   | true =>
    rw [hP] at he hcl
    conv=>whnf
    repeat' (first|exact trivial|((first|refine kL ?_|(refine ⟨fun hb=>?_,fun hb=>?_⟩<;>(try simp only [nrm] at hb)<;>try exact kZ hb)|refine kE hcl [(0,0)] rfl ?_|refine kF hcl [(0,0)] rfl ?_|refine kV ?_)<;>(conv=>whnf))|refine kY ?_ ?_)
    rw [← he];rfl
   | false =>
    rw [hP] at he hcl
    conv=>whnf
    repeat' (first|exact trivial|((first|refine kL ?_|(refine ⟨fun hb=>?_,fun hb=>?_⟩<;>(try simp only [nrm] at hb)<;>try exact kZ hb)|refine kE hcl [(0,0)] rfl ?_|refine kF hcl [(0,0)] rfl ?_|refine kV ?_)<;>(conv=>whnf))|refine kY ?_ ?_)
    refine .to (k + 1) ⟨hlt,?_⟩ (by omega) ?_
    ·rw [← he];rfl
    ·exact fD0
  ·conv=>whnf
   repeat' (first|exact trivial|((first|(refine ⟨fun hb=>?_,fun hb=>?_⟩<;>(try simp only [nrm] at hb)<;>try exact kZ hb)|refine kV ?_)<;>(conv=>whnf))|refine kY ?_ ?_)
   have : k = l.length:=by omega
   subst this
   simp only [List.drop_length,b8] at he
   rw [← he]
theorem E5 (w : Wld) (l : List (El .chunk)) (hl : l.length ≤ big) (hw : ∀ s ∈ l,OkC s) : Ev1 Tryz.prog 92 [.vec .chunk l,.clo (.func 90) [] [.ptr 0 0]] [(0,.box (bA w))] (bol (l.any (gA w.size))) [(0,.box (bA w))]:=by
 refine eF Tryz.func92 7 ?_
 conv=>whnf
 repeat' (first|exact trivial|((first|refine kL ?_|(refine ⟨fun hb=>?_,fun hb=>?_⟩<;>(try simp only [nrm] at hb)<;>try exact kZ hb)|(refine isE 177 ?_;refine kE (vS w l hl hw) [(0,0)] rfl ?_)|(refine isD 177 ?_;refine kF (vS w l hl hw) [(0,0)] rfl ?_)|refine kV ?_)<;>(conv=>whnf))|refine kY ?_ ?_)
 all_goals (first|rw [gT]|skip)
def mi (size : Int) (p : Player) : Bool:=!(a7 p) || !(av size p.x p.y)
theorem Dd (w : Wld) (p : Player) (hp : OkP p) : Ev1 Tryz.prog 98 [.agg (cells .player p),.ptr 0 0] [(0,.box (bA w))] (bol (mi w.size p)) [(0,.box (bA w))]:=by
 have h1:=vP p hp
 have h2:=lc w p.x p.y
 unfold mi
 cases hR : a7 p
 all_goals
  cases hQ : av w.size p.x p.y
  all_goals
   rw [hR] at h1
   rw [hQ] at h2
   refine eF Tryz.func98 14 ?_
   conv=>whnf
   repeat' (first|exact trivial|((first|(refine ⟨fun hb=>?_,fun hb=>?_⟩<;>(try simp only [nrm] at hb)<;>try exact kZ hb)|refine kV ?_)<;>(conv=>whnf))|refine kY ?_ ?_)
theorem yO (w : Wld) (l : List (El .player)) (hl : l.length ≤ big) (hw : ∀ s ∈ l,OkP s) : Ev1 Tryz.prog 178 [.vec .player l,.clo (.func 98) [] [.ptr 0 0]] [(0,.box (bA w))] (i64 (b8 (mi w.size) l 0)) [(0,.box (bA w))]:=by
 unfold big at hl
 refine eF Tryz.func178 17 ?_
 conv=>whnf
 refine ap.loopS ah (σ:=Nat) [0,1,7,8] (fun k=>[.vec .player l,.clo (.func 98) [] [.ptr 0 0],i64 l.length,i64 k]) (fun _=>[(0,.box (bA w))]) (fun k=>k ≤ l.length ∧ b8 (mi w.size) (l.drop k) k = b8 (mi w.size) l 0) (fun k=>l.length - k) 0 ⟨by omega,rfl⟩ ?_ ?_
 ·exact fD0
 ·intro k ⟨hk,he⟩
  by_cases hlt : k < l.length
  ·rw [aY hlt] at he
   simp only [b8] at he
   have hcl:=Dd w _ (hw _ (fG (t:=.player) (i:=(k : Int)) (by omega) (by omega)))
   rw [Int.toNat_natCast] at hcl
   cases hP : (mi w.size) (elt .player l k) with
   | true =>
    rw [hP] at he hcl
    conv=>whnf
    repeat' (first|exact trivial|((first|refine kL ?_|(refine ⟨fun hb=>?_,fun hb=>?_⟩<;>(try simp only [nrm] at hb)<;>try exact kZ hb)|refine kE hcl [(0,0)] rfl ?_|refine kF hcl [(0,0)] rfl ?_|refine kV ?_)<;>(conv=>whnf))|refine kY ?_ ?_)
    rw [← he];rfl
   | false =>
    rw [hP] at he hcl
    conv=>whnf
    repeat' (first|exact trivial|((first|refine kL ?_|(refine ⟨fun hb=>?_,fun hb=>?_⟩<;>(try simp only [nrm] at hb)<;>try exact kZ hb)|refine kE hcl [(0,0)] rfl ?_|refine kF hcl [(0,0)] rfl ?_|refine kV ?_)<;>(conv=>whnf))|refine kY ?_ ?_)
    refine .to (k + 1) ⟨hlt,?_⟩ (by omega) ?_
    ·rw [← he];rfl
    ·exact fD0
  ·conv=>whnf
   repeat' (first|exact trivial|((first|(refine ⟨fun hb=>?_,fun hb=>?_⟩<;>(try simp only [nrm] at hb)<;>try exact kZ hb)|refine kV ?_)<;>(conv=>whnf))|refine kY ?_ ?_)
   have : k = l.length:=by omega
   subst this
   simp only [List.drop_length,b8] at he
   rw [← he]
theorem Hh (w : Wld) (l : List (El .player)) (hl : l.length ≤ big) (hw : ∀ s ∈ l,OkP s) : Ev1 Tryz.prog 97 [.vec .player l,.clo (.func 98) [] [.ptr 0 0]] [(0,.box (bA w))] (bol (l.any (mi w.size))) [(0,.box (bA w))]:=by
 refine eF Tryz.func97 7 ?_
 conv=>whnf
 repeat' (first|exact trivial|((first|refine kL ?_|(refine ⟨fun hb=>?_,fun hb=>?_⟩<;>(try simp only [nrm] at hb)<;>try exact kZ hb)|(refine isE 178 ?_;refine kE (yO w l hl hw) [(0,0)] rfl ?_)|(refine isD 178 ?_;refine kF (yO w l hl hw) [(0,0)] rfl ?_)|refine kV ?_)<;>(conv=>whnf))|refine kY ?_ ?_)
 all_goals (first|rw [gT]|skip)
def iy (w : Wld) : Bool:=decide (1 ≤ w.size) && (decide (w.size ≤ 16) && (decide (0 ≤ w.tick) && (decide (w.tick ≤ 1099511627776) && decide ((w.players.length : Int) ≤ 32))))
def aO (w : Wld) : Bool:=iy w && (!(w.chunks.any (gA w.size)) && (cM dQ w.chunks && (cM idI w.players && !(w.players.any (mi w.size)))))
theorem dA (w : Wld) (hw : OkW w) : Api Tryz.prog 42 [az w] (bol (aO w)):=by
 have nc:=hw.nc
 have np:=hw.np
 have h1:=E5 w w.chunks (by unfold big;omega) hw.chunks
 have h2:=Aw w.chunks (by omega)
 have h3:=Ax w.players (by omega)
 have h4:=Hh w w.players (by unfold big;omega) hw.players
 unfold aO
 by_cases hH : iy w = true
 ·rw [hH]
  simp only [iy,Bool.and_eq_true,decide_eq_true_eq] at hH
  cases hA : w.chunks.any (gA w.size)
  all_goals
   rw [hA] at h1
   cases hB : cM dQ w.chunks
   all_goals
    rw [hB] at h2
    cases hC : cM idI w.players
    all_goals
     rw [hC] at h3
     cases hD : w.players.any (mi w.size)
     all_goals
      rw [hD] at h4
      refine aF Tryz.func42 49 ?_
      conv=>whnf
      repeat' (first|exact trivial|((first|refine kL ?_|(refine ⟨fun hb=>?_,fun hb=>?_⟩<;>(try simp only [nrm] at hb)<;>try exact kZ hb)|refine kE h1 [(0,2)] rfl ?_|refine kF h1 [(0,2)] rfl ?_|refine kE h4 [(0,2)] rfl ?_|refine kF h4 [(0,2)] rfl ?_|refine kV ?_)<;>(conv=>whnf))|refine kY ?_ ?_)
 ·rw [Bool.eq_false_iff.2 hH,Bool.false_and]
  simp only [iy,Bool.and_eq_true,decide_eq_true_eq] at hH
  refine aF Tryz.func42 49 ?_
  exact fD0
open Go Go.RowKit Eng
theorem E6 (l : List (El .player)) (i : Nat) (b : El .player) (hi : i < l.length) : (cN (l.take (i + 1) ++ l.drop i) i [b]).take (l.length + 1) = l.take i ++ b :: l.drop i:=by
 unfold cN
 have h1 : (l.take (i + 1) ++ l.drop i).take i = l.take i:=by
  rw [List.take_append_of_le_length (by simp;omega),List.take_take,Nat.min_eq_left (by omega)]
 have h2 : (l.take (i + 1) ++ l.drop i).drop (i + ([b] : List (El .player)).length) = l.drop i:=List.drop_left' (by simp;omega)
 rw [h1,h2]
 exact List.take_of_length_le (by simp;omega)
theorem E7 (l : List (El .player)) (i : Nat) (hi : i < l.length) : i ≤ (l.take (i + 1) ++ l.drop i).length:=by simp;omega
theorem E8 (l : List (El .player)) (i : Nat) (b : El .player) (hi : i < l.length) : l.length + 1 ≤ (cN (l.take (i + 1) ++ l.drop i) i [b]).length:=by simp [cN];omega
set_option maxHeartbeats 2000000 in
theorem Ay (l : List (El .player)) (i : Nat) (b : El .player) (hi : i ≤ l.length) (hl : (l.length + 1) * 88 ≤ 140737488355328) (c : Nat) (hc : l.length ≤ c) : Ev1 Tryz.prog 118 [.own .player 1 0 l.length (some c),i64 i,.own .player 3 0 1 (some 1)] [(1,.row .player l),(3,.row .player [b])] (.own .player 390001 0 (l.length + 1) none) [(390001,.row .player (l.take i ++ b :: l.drop i))]:=by
 refine eF Tryz.func118 92 ?_
 conv=>whnf
 have e1 : ((i : Int) - 0).toNat = i:=by omega
 have e2 : ((l.length : Int) - (i : Int)).toNat = l.length - i:=by omega
 have e4 : ((l.length : Int) + 1 - (i : Int)).toNat = l.length + 1 - i:=by omega
 have e3 : List.take (l.length - i) (l.drop i) = l.drop i:=List.take_of_length_le (by simp)
 have e5 : ((i : Int) + 1).toNat = i + 1:=by omega
 have e6 : i + (l.length + 1 - i) = l.length + 1:=by omega
 have e7 : (((l.length + 1 : Nat) : Int) - (i : Int)).toNat = l.length + 1 - i:=by omega
 have e8 : (((l.length + 1 : Nat) : Int) - ((i : Int) + 1)).toNat = l.length - i:=by omega
 have e9 : ((l.length : Int) + 1 - ((i : Int) + 1)).toNat = l.length - i:=by omega
 have ea : ((l.length : Int) + 1).toNat = l.length + 1:=by omega
 have eb : min 1 (l.length + 1 - i) = 1:=by omega
 have ec : ((l.length : Int) + 1 - 0).toNat = l.length + 1:=by omega
 by_cases hcap : c < l.length + 1
 ·repeat' (first|exact trivial|((first|(refine ⟨fun hb=>?_,fun hb=>?_⟩<;>(try simp only [nrm] at hb)<;>try exact kZ hb)|refine kV ?_)<;>(conv=>whnf))|refine kY ?_ ?_)
  ·obtain rfl : i = l.length:=by omega
   simp only [List.take_length,List.drop_length]
   exact List.take_of_length_le (by simp)
  all_goals simp only [e1,e2,e3,e4,Int.natCast_one,e5,e6,e7,e8,e9,ea,eb,ec,Int.toNat_natCast,Int.toNat_zero,Nat.add_zero,Nat.zero_add,List.drop_zero,List.take_succ_cons,List.take_zero,List.length_cons,List.length_nil,Nat.min_self,List.length_drop]
  ·simp [cN];omega
  ·simp [cN];omega
  ·generalize hR : List.replicate (l.length + 1 - i) (dO Ty.player) = R
   have hRl : R.length = l.length + 1 - i:=by rw [← hR,List.length_replicate]
   have h1 : l.length + 1 = (i + 1) + (l.drop i).length:=by simp;omega
   rw [h1,iV _ _ _ (by simp [cN];omega)]
   have h2:=iV (l.take i ++ R) [b] i (by simp;omega)
   rw [List.length_singleton] at h2
   rw [h2,List.take_left' (by simp;omega)]
   simp
 ·have ed : min (l.length + 1 - i) (l.length - i) = l.length - i:=by omega
  have hX : cN l (i + 1) (l.drop i) = l.take (i + 1) ++ l.drop i:=by
   unfold cN
   rw [show l.drop (i + 1 + (l.drop i).length) = [] from List.drop_eq_nil_of_le (by simp;omega),List.append_nil]
  repeat' (first|exact trivial|((first|(refine ⟨fun hb=>?_,fun hb=>?_⟩<;>(try simp only [nrm] at hb)<;>try exact kZ hb)|refine kV ?_)<;>(conv=>whnf))|refine kY ?_ ?_)
  ·obtain rfl : i = l.length:=by omega
   simp only [List.take_length,List.drop_length]
   rw [← List.append_assoc,Nat.zero_add,List.take_length]
   have hlb : l.length + 1 = (l ++ [b]).length:=by rw [List.length_append];rfl
   exact List.take_left' hlb.symm
  all_goals simp only [e1,e2,e3,e4,Int.natCast_one,e5,e6,e7,e8,e9,ea,eb,ec,ed,Int.toNat_natCast,Int.toNat_zero,Nat.add_zero,Nat.zero_add,List.drop_zero,List.take_succ_cons,List.take_zero,List.length_cons,List.length_nil,Nat.min_self,List.length_drop,hX]
  ·exact E7 l i (by omega)
  ·exact E8 l i b (by omega)
  ·exact E6 l i b (by omega)
theorem De (l : List (El .player)) (i : Nat) (b : El .player) (hi : i ≤ l.length) (hl : (l.length + 1) * 88 ≤ 140737488355328) : Ev1 Tryz.prog 118 [.own .player 1 0 l.length none,i64 i,.own .player 3 0 1 (some 1)] [(1,.row .player l),(3,.row .player [b])] (.own .player 390001 0 (l.length + 1) none) [(390001,.row .player (l.take i ++ b :: l.drop i))]:=
 Ev1.cap fun c hc=>Ay l i b hi hl c hc
theorem rL (l : List (El .player)) (n : Nat) (i : Nat) (b : El .player) (hn : n = l.length) (hi : i ≤ l.length) (hl : (l.length + 1) * 88 ≤ 140737488355328) : Ev1 Tryz.prog 118 [.own .player 1 0 n none,i64 i,.own .player 3 0 1 (some 1)] [(1,.row .player l),(3,.row .player [b])] (.own .player 390001 0 (n + 1) none) [(390001,.row .player (l.take i ++ b :: l.drop i))]:=by
 subst hn;exact De l i b hi hl
open Go Go.RowKit Eng
theorem Az (l : List (El .chunk)) (i j : Nat) (hij : i ≤ j) (hj : j ≤ l.length) (hl : l.length * 88 ≤ 140737488355328) (c : Nat) (hc : l.length ≤ c) : Ev1 Tryz.prog 256 [.own .chunk 1 0 l.length (some c),i64 i,i64 j] [(1,.row .chunk l)] (.own .chunk 1 0 (i + (l.length - j)) none) [(1,.row .chunk (l.take i ++ l.drop j))]:=by
 refine eF Tryz.func256 30 ?_
 have e1 : ((i : Int) - 0).toNat = i:=by omega
 have e2 : ((l.length : Int) - (j : Int)).toNat = l.length - j:=by omega
 have e3 : List.take (l.length - j) (l.drop j) = l.drop j:=List.take_of_length_le (by simp)
 conv=>whnf
 repeat' (first|exact trivial|((first|(refine ⟨fun hb=>?_,fun hb=>?_⟩<;>(try simp only [nrm] at hb)<;>try exact kZ hb)|refine kV ?_)<;>(conv=>whnf))|refine kY ?_ ?_)
 ·obtain rfl : i = j:=by omega
  rw [List.take_length,List.take_append_drop]
 all_goals simp only [e1,e2,Int.toNat_natCast,Int.toNat_zero,Nat.add_zero,Nat.zero_add,e3,List.length_drop]
 ·exact j9 _ _ _ (by simp;omega)
 ·rw [mR _ _ _ (by simp;omega),← List.append_assoc]
  exact List.take_left' (by simp;omega)
theorem Df (l : List (El .chunk)) (i j : Nat) (hij : i ≤ j) (hj : j ≤ l.length) (hl : l.length * 88 ≤ 140737488355328) : Ev1 Tryz.prog 256 [.own .chunk 1 0 l.length none,i64 i,i64 j] [(1,.row .chunk l)] (.own .chunk 1 0 (i + (l.length - j)) none) [(1,.row .chunk (l.take i ++ l.drop j))]:=
 Ev1.cap fun c hc=>Az l i j hij hj hl c hc
theorem E9 (l : List (El .chunk)) (i : Nat) (b : El .chunk) (hi : i < l.length) : (cN (l.take (i + 1) ++ l.drop i) i [b]).take (l.length + 1) = l.take i ++ b :: l.drop i:=by
 unfold cN
 have h1 : (l.take (i + 1) ++ l.drop i).take i = l.take i:=by
  rw [List.take_append_of_le_length (by simp;omega),List.take_take,Nat.min_eq_left (by omega)]
 have h2 : (l.take (i + 1) ++ l.drop i).drop (i + ([b] : List (El .chunk)).length) = l.drop i:=List.drop_left' (by simp;omega)
 rw [h1,h2]
 exact List.take_of_length_le (by simp;omega)
theorem E_ (l : List (El .chunk)) (i : Nat) (hi : i < l.length) : i ≤ (l.take (i + 1) ++ l.drop i).length:=by simp;omega
theorem Fa (l : List (El .chunk)) (i : Nat) (b : El .chunk) (hi : i < l.length) : l.length + 1 ≤ (cN (l.take (i + 1) ++ l.drop i) i [b]).length:=by simp [cN];omega
set_option maxHeartbeats 2000000 in
theorem AA (l : List (El .chunk)) (i : Nat) (b : El .chunk) (hi : i ≤ l.length) (hl : (l.length + 1) * 88 ≤ 140737488355328) (c : Nat) (hc : l.length ≤ c) : Ev1 Tryz.prog 258 [.own .chunk 1 0 l.length (some c),i64 i,.own .chunk 3 0 1 (some 1)] [(1,.row .chunk l),(3,.row .chunk [b])] (.own .chunk 390001 0 (l.length + 1) none) [(390001,.row .chunk (l.take i ++ b :: l.drop i))]:=by
 refine eF Tryz.func258 92 ?_
 conv=>whnf
 have e1 : ((i : Int) - 0).toNat = i:=by omega
 have e2 : ((l.length : Int) - (i : Int)).toNat = l.length - i:=by omega
 have e4 : ((l.length : Int) + 1 - (i : Int)).toNat = l.length + 1 - i:=by omega
 have e3 : List.take (l.length - i) (l.drop i) = l.drop i:=List.take_of_length_le (by simp)
 have e5 : ((i : Int) + 1).toNat = i + 1:=by omega
 have e6 : i + (l.length + 1 - i) = l.length + 1:=by omega
 have e7 : (((l.length + 1 : Nat) : Int) - (i : Int)).toNat = l.length + 1 - i:=by omega
 have e8 : (((l.length + 1 : Nat) : Int) - ((i : Int) + 1)).toNat = l.length - i:=by omega
 have e9 : ((l.length : Int) + 1 - ((i : Int) + 1)).toNat = l.length - i:=by omega
 have ea : ((l.length : Int) + 1).toNat = l.length + 1:=by omega
 have eb : min 1 (l.length + 1 - i) = 1:=by omega
 have ec : ((l.length : Int) + 1 - 0).toNat = l.length + 1:=by omega
 by_cases hcap : c < l.length + 1
 ·repeat' (first|exact trivial|((first|(refine ⟨fun hb=>?_,fun hb=>?_⟩<;>(try simp only [nrm] at hb)<;>try exact kZ hb)|refine kV ?_)<;>(conv=>whnf))|refine kY ?_ ?_)
  ·obtain rfl : i = l.length:=by omega
   simp only [List.take_length,List.drop_length]
   exact List.take_of_length_le (by simp)
  all_goals simp only [e1,e2,e3,e4,Int.natCast_one,e5,e6,e7,e8,e9,ea,eb,ec,Int.toNat_natCast,Int.toNat_zero,Nat.add_zero,Nat.zero_add,List.drop_zero,List.take_succ_cons,List.take_zero,List.length_cons,List.length_nil,Nat.min_self,List.length_drop]
  ·simp [cN];omega
  ·simp [cN];omega
  ·generalize hR : List.replicate (l.length + 1 - i) (dO Ty.chunk) = R
   have hRl : R.length = l.length + 1 - i:=by rw [← hR,List.length_replicate]
   have h1 : l.length + 1 = (i + 1) + (l.drop i).length:=by simp;omega
   rw [h1,iV _ _ _ (by simp [cN];omega)]
   have h2:=iV (l.take i ++ R) [b] i (by simp;omega)
   rw [List.length_singleton] at h2
   rw [h2,List.take_left' (by simp;omega)]
   simp
 ·have ed : min (l.length + 1 - i) (l.length - i) = l.length - i:=by omega
  have hX : cN l (i + 1) (l.drop i) = l.take (i + 1) ++ l.drop i:=by
   unfold cN
   rw [show l.drop (i + 1 + (l.drop i).length) = [] from List.drop_eq_nil_of_le (by simp;omega),List.append_nil]
  repeat' (first|exact trivial|((first|(refine ⟨fun hb=>?_,fun hb=>?_⟩<;>(try simp only [nrm] at hb)<;>try exact kZ hb)|refine kV ?_)<;>(conv=>whnf))|refine kY ?_ ?_)
  ·obtain rfl : i = l.length:=by omega
   simp only [List.take_length,List.drop_length]
   rw [← List.append_assoc,Nat.zero_add,List.take_length]
   have hlb : l.length + 1 = (l ++ [b]).length:=by rw [List.length_append];rfl
   exact List.take_left' hlb.symm
  all_goals simp only [e1,e2,e3,e4,Int.natCast_one,e5,e6,e7,e8,e9,ea,eb,ec,ed,Int.toNat_natCast,Int.toNat_zero,Nat.add_zero,Nat.zero_add,List.drop_zero,List.take_succ_cons,List.take_zero,List.length_cons,List.length_nil,Nat.min_self,List.length_drop,hX]
  ·exact E_ l i (by omega)
  ·exact Fa l i b (by omega)
  ·exact E9 l i b (by omega)
theorem Dg (l : List (El .chunk)) (i : Nat) (b : El .chunk) (hi : i ≤ l.length) (hl : (l.length + 1) * 88 ≤ 140737488355328) : Ev1 Tryz.prog 258 [.own .chunk 1 0 l.length none,i64 i,.own .chunk 3 0 1 (some 1)] [(1,.row .chunk l),(3,.row .chunk [b])] (.own .chunk 390001 0 (l.length + 1) none) [(390001,.row .chunk (l.take i ++ b :: l.drop i))]:=
 Ev1.cap fun c hc=>AA l i b hi hl c hc
theorem rM (l : List (El .chunk)) (n : Nat) (i : Nat) (b : El .chunk) (hn : n = l.length) (hi : i ≤ l.length) (hl : (l.length + 1) * 88 ≤ 140737488355328) : Ev1 Tryz.prog 258 [.own .chunk 1 0 n none,i64 i,.own .chunk 3 0 1 (some 1)] [(1,.row .chunk l),(3,.row .chunk [b])] (.own .chunk 390001 0 (n + 1) none) [(390001,.row .chunk (l.take i ++ b :: l.drop i))]:=by
 subst hn;exact Dg l i b hi hl
theorem AB (l : List (El .chunk)) (n : Nat) (i j : Nat) (hn : n = l.length) (hij : i ≤ j) (hj : j ≤ l.length) (hl : l.length * 88 ≤ 140737488355328) : Ev1 Tryz.prog 256 [.own .chunk 1 0 n none,i64 i,i64 j] [(1,.row .chunk l)] (.own .chunk 1 0 (i + (n - j)) none) [(1,.row .chunk (l.take i ++ l.drop j))]:=by
 subst hn;exact Df l i j hij hj hl
open Go Go.RowKit Eng
theorem ou (c : Chunk) (hc : fH c) : Api Tryz.prog 74 [bq c] (bq c):=by
 have h1:=hc.cells
 have h2:=hc.heaps
 have h3:=hc.boxes
 refine aF Tryz.func74 35 ?_
 conv=>whnf
 repeat' (first|exact trivial|((first|refine kL ?_|(refine ⟨fun hb=>?_,fun hb=>?_⟩<;>(try simp only [nrm] at hb)<;>try exact kZ hb)|(refine isE 146 ?_;refine kE (j6 _ (by omega)) [(390001,150001)] rfl ?_)|(refine isD 146 ?_;refine kF (j6 _ (by omega)) [(390001,150001)] rfl ?_)|(refine isE 147 ?_;refine kE (j7 _ (by omega)) [(390001,150003)] rfl ?_)|(refine isD 147 ?_;refine kF (j7 _ (by omega)) [(390001,150003)] rfl ?_)|(refine isE 148 ?_;refine kE (j8 _ (by omega)) [(390001,150005)] rfl ?_)|(refine isD 148 ?_;refine kF (j8 _ (by omega)) [(390001,150005)] rfl ?_)|refine kV ?_)<;>(conv=>whnf))|refine kY ?_ ?_)
 refine ap.loopS ah (σ:=Nat) [1,2,18,19] (fun k=>[.ptr 2 0,.ptr 4 0,i64 c.boxes.length,i64 k]) (fun _=>(2,.box (jk c 150001 150003 150005)) :: (4,.box (bB ⟨0,0,[],[],[]⟩)) :: ko c 150001 150003 150005) (fun k=>k ≤ c.boxes.length) (fun k=>c.boxes.length - k) 0 (by omega) ?_ ?_
 ·exact fD0
 ·intro k hk
  by_cases hlt : k < c.boxes.length
  ·have hbk:=hc.bags _ (ao (t:=.box) hlt)
   conv=>whnf
   repeat' (first|exact trivial|((first|refine kL ?_|(refine ⟨fun hb=>?_,fun hb=>?_⟩<;>(try simp only [nrm] at hb)<;>try exact kZ hb)|(refine isE 121 ?_;refine kA (a8 (elt .box c.boxes k).bag (by omega)) ?_)|(refine isD 121 ?_;refine kD (a8 (elt .box c.boxes k).bag (by omega)) ?_)|refine kV ?_)<;>(conv=>whnf))|refine kY ?_ ?_)
   refine .to (k + 1) hlt (by omega) ?_
   conv=>whnf
   repeat' (first|exact trivial|((first|(refine ⟨fun hb=>?_,fun hb=>?_⟩<;>(try simp only [nrm] at hb)<;>try exact kZ hb)|refine kV ?_)<;>(conv=>whnf))|refine kY ?_ ?_)
   all_goals (try simp only [Int.toNat_natCast,Nat.add_zero,List.length_set])
   all_goals (try rw [rH])
   all_goals exact List.take_length
  ·exact fD0
theorem fV {tt : Ty} (l : List (El tt)) (k : Nat) : l.set k (elt tt l k) = l:=by
 by_cases h : k < l.length
 ·have:=ar tt l k h
  rw [List.getElem?_eq_getElem h] at this
  rw [← Option.some.inj this];exact List.set_getElem_self h
 ·exact List.set_eq_of_length_le (by omega)
abbrev ve (w : Wld) (a b : Nat) : List AV:=[i64 w.size,.lit (.int .u64 w.seed),i64 w.tick,.own .chunk a 0 w.chunks.length none,.own .player b 0 w.players.length none]
abbrev mj (w : Wld) (a b : Nat) : Mem:=[(a,.row .chunk w.chunks),(b,.row .player w.players)]
theorem tQ (w : Wld) (hw : OkW w) : Ev1 Tryz.prog 117 [az w] [] (.agg (ve w 390001 390003)) (mj w 390001 390003):=by
 have h1:=hw.nc
 have h2:=hw.np
 refine eF Tryz.func117 45 ?_
 conv=>whnf
 repeat' (first|exact trivial|((first|refine kL ?_|(refine ⟨fun hb=>?_,fun hb=>?_⟩<;>(try simp only [nrm] at hb)<;>try exact kZ hb)|(refine isE 186 ?_;refine kE (pG _ (by omega)) [(390001,350001)] rfl ?_)|(refine isD 186 ?_;refine kF (pG _ (by omega)) [(390001,350001)] rfl ?_)|(refine isE 187 ?_;refine kE (pd _ (by omega)) [(390001,350003)] rfl ?_)|(refine isD 187 ?_;refine kF (pd _ (by omega)) [(390001,350003)] rfl ?_)|refine kV ?_)<;>(conv=>whnf))|refine kY ?_ ?_)
 refine ap.loopS ah (σ:=Nat) [1,2,16,17,18] (fun k=>[.ptr 200002 0,.ptr 200004 0,.own .chunk 350001 0 w.chunks.length none,i64 w.chunks.length,i64 k]) (fun _=>(200002,.box (ve w 350001 350003)) :: (200004,.box (bA ⟨0,0,0,[],[]⟩)) :: mj w 350001 350003) (fun k=>k ≤ w.chunks.length) (fun k=>w.chunks.length - k) 0 (by omega) ?_ ?_
 ·conv=>whnf
  repeat' (first|exact trivial|((first|(refine ⟨fun hb=>?_,fun hb=>?_⟩<;>(try simp only [nrm] at hb)<;>try exact kZ hb)|refine kV ?_)<;>(conv=>whnf))|refine kY ?_ ?_)
  all_goals first|exact List.take_length|exact (congrArg (List.take _) (fV (tt:=.chunk) _ _)).trans List.take_length|exact (congrArg (List.take _) (fV (tt:=.player) _ _)).trans List.take_length|(simp;done)|trace_state
 ·intro k hk
  by_cases hlt : k < w.chunks.length
  ·have hf:=hw.fit _ (ao (t:=.chunk) hlt)
   conv=>whnf
   repeat' (first|exact trivial|((first|refine kL ?_|(refine ⟨fun hb=>?_,fun hb=>?_⟩<;>(try simp only [nrm] at hb)<;>try exact kZ hb)|(refine isE 74 ?_;refine kA (ou (elt .chunk w.chunks k) hf) ?_)|(refine isD 74 ?_;refine kD (ou (elt .chunk w.chunks k) hf) ?_)|refine kV ?_)<;>(conv=>whnf))|refine kY ?_ ?_)
   refine .to (k + 1) hlt (by omega) ?_
   conv=>whnf
   repeat' (first|exact trivial|((first|(refine ⟨fun hb=>?_,fun hb=>?_⟩<;>(try simp only [nrm] at hb)<;>try exact kZ hb)|refine kV ?_)<;>(conv=>whnf))|refine kY ?_ ?_)
   all_goals first|exact List.take_length|exact (congrArg (List.take _) (fV (tt:=.chunk) _ _)).trans List.take_length|exact (congrArg (List.take _) (fV (tt:=.player) _ _)).trans List.take_length|(simp;done)|trace_state
  ·obtain rfl : k = w.chunks.length:=by omega
   conv=>whnf
   repeat' (first|exact trivial|((first|(refine ⟨fun hb=>?_,fun hb=>?_⟩<;>(try simp only [nrm] at hb)<;>try exact kZ hb)|refine kV ?_)<;>(conv=>whnf))|refine kY ?_ ?_)
   refine ap.loopS ah (σ:=Nat) [1,2,31,32,33] (fun k=>[.ptr 200002 0,.ptr 200004 0,.own .player 350003 0 w.players.length none,i64 w.players.length,i64 k]) (fun _=>(200002,.box (ve w 350001 350003)) :: (200004,.box (bA ⟨0,0,0,[],[]⟩)) :: mj w 350001 350003) (fun k=>k ≤ w.players.length) (fun k=>w.players.length - k) 0 (by omega) ?_ ?_
   ·conv=>whnf
    repeat' (first|exact trivial|((first|(refine ⟨fun hb=>?_,fun hb=>?_⟩<;>(try simp only [nrm] at hb)<;>try exact kZ hb)|refine kV ?_)<;>(conv=>whnf))|refine kY ?_ ?_)
    all_goals first|exact List.take_length|exact (congrArg (List.take _) (fV (tt:=.chunk) _ _)).trans List.take_length|exact (congrArg (List.take _) (fV (tt:=.player) _ _)).trans List.take_length|(simp;done)|trace_state
   ·intro k hk
    by_cases hlt : k < w.players.length
    ·have hf:=hw.players _ (ao (t:=.player) hlt)
     conv=>whnf
     repeat' (first|exact trivial|((first|refine kL ?_|(refine ⟨fun hb=>?_,fun hb=>?_⟩<;>(try simp only [nrm] at hb)<;>try exact kZ hb)|(refine isE 61 ?_;refine kA (mT (elt .player w.players k) hf) ?_)|(refine isD 61 ?_;refine kD (mT (elt .player w.players k) hf) ?_)|refine kV ?_)<;>(conv=>whnf))|refine kY ?_ ?_)
     refine .to (k + 1) hlt (by omega) ?_
     conv=>whnf
     repeat' (first|exact trivial|((first|(refine ⟨fun hb=>?_,fun hb=>?_⟩<;>(try simp only [nrm] at hb)<;>try exact kZ hb)|refine kV ?_)<;>(conv=>whnf))|refine kY ?_ ?_)
     all_goals first|exact List.take_length|exact (congrArg (List.take _) (fV (tt:=.chunk) _ _)).trans List.take_length|exact (congrArg (List.take _) (fV (tt:=.player) _ _)).trans List.take_length|(simp;done)|trace_state
    ·obtain rfl : k = w.players.length:=by omega
     conv=>whnf
     repeat' (first|exact trivial|((first|(refine ⟨fun hb=>?_,fun hb=>?_⟩<;>(try simp only [nrm] at hb)<;>try exact kZ hb)|refine kV ?_)<;>(conv=>whnf))|refine kY ?_ ?_)
     all_goals first|exact List.take_length|exact (congrArg (List.take _) (fV (tt:=.chunk) _ _)).trans List.take_length|exact (congrArg (List.take _) (fV (tt:=.player) _ _)).trans List.take_length|(simp;done)|trace_state
def gW (lt : Nat → Bool) (i j : Nat) : Nat:=if i < j then (if lt ((i + j) / 2) = true then gW lt ((i + j) / 2 + 1) j else gW lt i ((i + j) / 2)) else i
termination_by j - i
decreasing_by all_goals omega
theorem qW {lt : Nat → Bool} {i j : Nat} (h : i < j) (h2 : lt ((i + j) / 2) = true) : gW lt i j = gW lt ((i + j) / 2 + 1) j:=by rw [gW,if_pos h,if_pos h2]
theorem qX {lt : Nat → Bool} {i j : Nat} (h : i < j) (h2 : lt ((i + j) / 2) = false) : gW lt i j = gW lt i ((i + j) / 2):=by rw [gW,if_pos h,if_neg (by rw [h2];simp)]
theorem jM {lt : Nat → Bool} {i j : Nat} (h : ¬ i < j) : gW lt i j = i:=by rw [gW,if_neg h]
theorem vf {lt : Nat → Bool} : ∀ (n i j : Nat),j - i ≤ n → i ≤ j → i ≤ gW lt i j ∧ gW lt i j ≤ j
 | 0,i,j,h,hij=>by rw [jM (by omega)];omega
 | n + 1,i,j,h,hij=>by
  by_cases hlt : i < j
  ·cases hl : lt ((i + j) / 2) with
   | true=>rw [qW hlt hl];have:=vf (lt:=lt) n ((i + j) / 2 + 1) j (by omega) (by omega);omega
   | false=>rw [qX hlt hl];have:=vf (lt:=lt) n i ((i + j) / 2) (by omega) (by omega);omega
  ·rw [jM hlt];omega
theorem qY {lt : Nat → Bool} {b m : Nat} (hlt : ∀ k < m,lt k = decide (k < b)) : ∀ (n i j : Nat),j - i ≤ n → i ≤ b → b ≤ j → j ≤ m → gW lt i j = b
 | 0,i,j,h,hi,hj,hm=>by rw [jM (by omega)];omega
 | n + 1,i,j,h,hi,hj,hm=>by
  by_cases hij : i < j
  ·have hk:=hlt ((i + j) / 2) (by omega)
   by_cases hb : (i + j) / 2 < b
   ·rw [decide_eq_true hb] at hk
    rw [qW hij hk];exact qY hlt n _ _ (by omega) (by omega) hj hm
   ·rw [decide_eq_false hb] at hk
    rw [qX hij hk];exact qY hlt n _ _ (by omega) hi (by omega) (by omega)
  ·rw [jM hij];omega
abbrev pid : Player → Int:=Player.id
def bsP (l : List Player) (t : Int) : Nat:=gW (fun k=>decide ((elt .player l k).id < t)) 0 l.length
def fdP (l : List Player) (t : Int) : Bool:=decide (bsP l t < l.length) && ((elt .player l (bsP l t)).id == t)
theorem vT {l : List Player} (h : bi pid l) (t : Int) : bsP l t = lbK pid t l ∧ fdP l t = (aH pid l t).isSome:=by
 have hat:=tP t h
 have hle:=yL pid t l
 have e1 : bsP l t = lbK pid t l:=by
  refine qY (m:=l.length) (fun k hk=>?_) _ 0 l.length (Nat.le_refl _) (by omega) hle (Nat.le_refl _)
  have hke:=ar .player l k hk
  -- the boundary
  have hb1 : ∀ {l : List Player} {k : Nat} {a : Player},l[k]? = some a → k < lbK pid t l → a.id < t:=by
   intro l
   induction l with
   | nil=>intro k a ha;simp at ha
   | cons b r ih =>
    intro k a ha hk
    simp only [lbK] at hk
    split at hk
    ·cases k with
     | zero=>simp at ha;subst ha;assumption
     | succ k=>simp at ha;exact ih ha (by omega)
    ·omega
  by_cases hkb : k < lbK pid t l
  ·rw [decide_eq_true hkb,decide_eq_true (hb1 hke hkb)]
  ·rw [decide_eq_false hkb,decide_eq_false]
   have hlt' : lbK pid t l < l.length:=by omega
   have hbe:=ar .player l _ hlt'
   have hge : t ≤ (elt .player l (lbK pid t l)).id:=by
    have : ∀ {l : List Player} {b : Player},l[lbK pid t l]? = some b → t ≤ b.id:=by
     intro l
     induction l with
     | nil=>intro b hb;simp at hb
     | cons c r ih =>
      intro b hb
      simp only [lbK] at hb
      split at hb
      ·simp at hb;exact ih hb
      ·rename_i hc;simp at hb;subst hb;simp only [pid] at hc;omega
    exact this hbe
   rcases Nat.eq_or_lt_of_le (Nat.le_of_not_lt hkb) with he|hl
   ·rw [← he];exact Int.not_lt.2 hge
   ·have h3 : (elt .player l (lbK pid t l)).id < (elt .player l k).id:=kp h hl hbe hke
    exact Int.not_lt.2 (Int.le_trans hge (Int.le_of_lt h3))
 refine ⟨e1,?_⟩
 unfold fdP
 rw [e1]
 by_cases hlt : lbK pid t l < l.length
 ·have hbe:=ar .player l _ hlt
  rw [hbe] at hat
  simp only at hat
  rw [decide_eq_true hlt,Bool.true_and,← hat]
  by_cases he : (elt .player l (lbK pid t l)).id = t
  ·rw [if_pos he];simpa using he
  ·rw [if_neg he];simpa using he
 ·rw [List.getElem?_eq_none (by omega)] at hat
  rw [decide_eq_false hlt,← hat];rfl
theorem vU (p : Player) (t : Int) : Api Tryz.prog 120 [.agg (cells .player p),i64 t] (i64 (bX p.id t)):=by
 refine aF Tryz.func120 7 ?_
 conv=>whnf
 repeat' (first|exact trivial|((first|refine kL ?_|(refine ⟨fun hb=>?_,fun hb=>?_⟩<;>(try simp only [nrm] at hb)<;>try exact kZ hb)|(refine isE 105 ?_;refine kA (fl _ _) ?_)|(refine isD 105 ?_;refine kD (fl _ _) ?_)|refine kV ?_)<;>(conv=>whnf))|refine kY ?_ ?_)
theorem pK (l : List (El .player)) (t : Int) (hl : l.length ≤ 4000000000000000000) : Api Tryz.prog 119 [.vec .player l,i64 t,.lit (.func (.func 120) #[] #[])] (.tup [i64 (bsP l t),bol (fdP l t)]):=by
 refine aF Tryz.func119 46 ?_
 conv=>whnf
 refine ap.loopS ah (σ:=Nat × Nat) [0,1,2,8,9,10] (fun (i,j)=>[.vec .player l,i64 t,.lit (.func (.func 120) #[] #[]),i64 l.length,i64 i,i64 j]) (fun _=>[]) (fun (i,j)=>i ≤ j ∧ j ≤ l.length ∧ gW (fun k=>decide ((elt .player l k).id < t)) i j = bsP l t) (fun (i,j)=>j - i) (0,l.length) ⟨by omega,by omega,rfl⟩ ?_ ?_
 ·exact fD0
 ·rintro ⟨i,j⟩ ⟨h1,h2,h3⟩
  conv=>whnf
  repeat' (first|exact trivial|((first|refine kL ?_|(refine ⟨fun hb=>?_,fun hb=>?_⟩<;>(try simp only [nrm] at hb)<;>try exact kZ hb)|(rw [G_])|(refine isE 120 ?_;refine kA (vU _ _) ?_)|(refine isD 120 ?_;refine kD (vU _ _) ?_)|refine kV ?_)<;>(conv=>whnf))|refine kY ?_ ?_)
  ·rw [u6] at hb
   refine .to ((i + j) / 2 + 1,j) ⟨by omega,h2,by rw [← h3,qW (i:=i) (j:=j) (by omega) (decide_eq_true hb)]⟩ (by dsimp only;omega) ?_
   exact fD0
  ·rw [BR] at hb
   refine .to (i,(i + j) / 2) ⟨by omega,by omega,by rw [← h3,qX (i:=i) (j:=j) (by omega) (decide_eq_false (Int.not_lt.2 hb))]⟩ (by dsimp only;omega) ?_
   exact fD0
  all_goals
   obtain rfl : i = j:=by omega
   rw [jM (by omega)] at h3
   subst h3
  ·rfl
  ·unfold fdP
   rw [decide_eq_true (by omega)];refine congrArg Value.bool ?_;rw [Bool.true_and,Bool.eq_iff_iff,beq_iff_eq,beq_iff_eq];exact BS
  ·rfl
  ·unfold fdP
   rw [decide_eq_false (by omega)];rfl
theorem yP (w : Wld) (t : Int) (hl : w.players.length ≤ 4000000000000000000) : Api Tryz.prog 60 [az w,i64 t] (.tup [i64 (bsP w.players t),bol (fdP w.players t)]):=by
 refine aF Tryz.func60 10 ?_
 conv=>whnf
 repeat' (first|exact trivial|((first|refine kL ?_|(refine ⟨fun hb=>?_,fun hb=>?_⟩<;>(try simp only [nrm] at hb)<;>try exact kZ hb)|(refine isE 119 ?_;refine kA (pK w.players t hl) ?_)|(refine isD 119 ?_;refine kD (pK w.players t hl) ?_)|refine kV ?_)<;>(conv=>whnf))|refine kY ?_ ?_)
theorem Hi (w : Wld) (t : Int) (hl : w.players.length ≤ 4000000000000000000) : Ev1 Tryz.prog 60 [.agg (ve w 1 3),i64 t] (mj w 1 3) (.tup [i64 (bsP w.players t),bol (fdP w.players t)]) (mj w 1 3):=by
 refine Api.lend (yP w t hl) ?_ rfl
 conv=>whnf
 refine ⟨by omega,?_⟩
 conv=>whnf
 refine ⟨by omega,?_⟩
 conv=>whnf
 simp only [List.drop_zero,List.take_length]
theorem tS (w : Wld) (x y : Int) : Ev1 Tryz.prog 77 [.agg (ve w 1 3),i64 x,i64 y] (mj w 1 3) (bol (av w.size x y)) (mj w 1 3):=by
 refine Api.lend (lc w x y) ?_ rfl
 conv=>whnf
 refine ⟨by omega,?_⟩
 conv=>whnf
 refine ⟨by omega,?_⟩
 conv=>whnf
 simp only [List.drop_zero,List.take_length]
def cR (w : Wld) (l : List Player) : Wld:={ w with players:=l }
def am (w : Wld) (p : Player) : Wld × Int:=
 if aO w = false then (w,113) else if a7 p = false ∨ av w.size p.x p.y = false then (w,110)
 else if (aH pid w.players p.id).isSome = true then (cR w (w.players.set (lbK pid p.id w.players) p),0)
 else if 32 ≤ w.players.length then (w,3) else (cR w (w.players.take (lbK pid p.id w.players) ++ p :: w.players.drop (lbK pid p.id w.players)),0)
theorem ii {w : Wld} (h : aO w = true) : bi pid w.players ∧ w.players.length ≤ 32 ∧ 1 ≤ w.size ∧ w.size ≤ 16:=by
 simp only [aO,iy,Bool.and_eq_true,decide_eq_true_eq] at h
 exact ⟨sK.1 h.2.2.2.1,by omega,h.1.1,h.1.2.1⟩
theorem f_ (w : Wld) (p : Player) (hw : OkW w) (hp : OkP p) : Api Tryz.prog 59 [az w,aw p] (.tup [az (am w p).1,i64 (am w p).2]):=by
 have hnc:=hw.nc
 have hnp:=hw.np
 have hrt:=dA w hw
 have hsk:=Hi w p.id (by omega)
 have hso:=vP p hp
 have hwi:=lc w p.x p.y
 have hwc:=tQ w hw
 cases hR : aO w with
 | false =>
  rw [hR] at hrt
  have hs : am w p = (w,113):=by unfold am;rw [if_pos hR]
  rw [hs]
  refine aF Tryz.func59 60 ?_
  conv=>whnf
  repeat' (first|exact trivial|((first|refine kL ?_|(refine ⟨fun hb=>?_,fun hb=>?_⟩<;>(try simp only [nrm] at hb)<;>try exact kZ hb)|refine kE hwc [(390001,150001),(390003,150003)] rfl ?_|refine kF hwc [(390001,150001),(390003,150003)] rfl ?_|refine kE hsk [(1,150001),(3,150003)] rfl ?_|refine kF hsk [(1,150001),(3,150003)] rfl ?_|refine kV ?_)<;>(conv=>whnf))|refine kY ?_ ?_)
  all_goals first|(simp;done)|(simp [cR];done)|(rw [List.drop_zero];refine aC ?_;simp;done)|(rw [List.drop_zero];refine aC ?_;simp;omega)
 | true =>
  rw [hR] at hrt
  obtain ⟨hri,h32,hs1,hs2⟩:=ii hR
  obtain ⟨e1,e2⟩:=vT hri p.id
  rw [e1,e2] at hsk
  cases hS : a7 p with
  | false =>
   rw [hS] at hso
   have hs : am w p = (w,110):=by unfold am;rw [if_neg (by rw [hR];simp),if_pos (.inl hS)]
   rw [hs]
   refine aF Tryz.func59 60 ?_
   conv=>whnf
   repeat' (first|exact trivial|((first|refine kL ?_|(refine ⟨fun hb=>?_,fun hb=>?_⟩<;>(try simp only [nrm] at hb)<;>try exact kZ hb)|refine kE hwc [(390001,150001),(390003,150003)] rfl ?_|refine kF hwc [(390001,150001),(390003,150003)] rfl ?_|refine kE hsk [(1,150001),(3,150003)] rfl ?_|refine kF hsk [(1,150001),(3,150003)] rfl ?_|refine kV ?_)<;>(conv=>whnf))|refine kY ?_ ?_)
   all_goals first|(simp;done)|(simp [cR];done)|(rw [List.drop_zero];refine aC ?_;simp;done)|(rw [List.drop_zero];refine aC ?_;simp;omega)
  | true =>
   rw [hS] at hso
   cases hI : av w.size p.x p.y with
   | false =>
    rw [hI] at hwi
    have hs : am w p = (w,110):=by unfold am;rw [if_neg (by rw [hR];simp),if_pos (.inr hI)]
    rw [hs]
    have hwl:=tS w p.x p.y
    rw [hI] at hwl
    refine aF Tryz.func59 60 ?_
    conv=>whnf
    repeat' (first|exact trivial|((first|refine kL ?_|(refine ⟨fun hb=>?_,fun hb=>?_⟩<;>(try simp only [nrm] at hb)<;>try exact kZ hb)|refine kE hwc [(390001,150001),(390003,150003)] rfl ?_|refine kF hwc [(390001,150001),(390003,150003)] rfl ?_|refine kE hsk [(1,150001),(3,150003)] rfl ?_|refine kF hsk [(1,150001),(3,150003)] rfl ?_|refine kE hwl [(1,150001),(3,150003)] rfl ?_|refine kF hwl [(1,150001),(3,150003)] rfl ?_|refine kV ?_)<;>(conv=>whnf))|refine kY ?_ ?_)
    all_goals first|(simp;done)|(simp [cR];done)|(rw [List.drop_zero];refine aC ?_;simp;done)|(rw [List.drop_zero];refine aC ?_;simp;omega)
   | true =>
    have hwl:=tS w p.x p.y
    rw [hI] at hwl
    have hal:=mT p hp
    have hle:=yL pid p.id w.players
    cases hT : (aH pid w.players p.id).isSome with
    | true =>
     rw [hT] at hsk
     have hs : am w p = (cR w (w.players.set (lbK pid p.id w.players) p),0):=by unfold am;rw [if_neg (by rw [hR];simp),if_neg (by rw [hS,hI];simp),if_pos hT]
     rw [hs]
     have hlt : lbK pid p.id w.players < w.players.length:=by
      obtain ⟨b,hb⟩:=Option.isSome_iff_exists.1 hT
      exact (pH hri hb).1
     generalize lbK pid p.id w.players = at_ at *
     refine aF Tryz.func59 60 ?_
     conv=>whnf
     repeat' (first|exact trivial|((first|refine kL ?_|(refine ⟨fun hb=>?_,fun hb=>?_⟩<;>(try simp only [nrm] at hb)<;>try exact kZ hb)|refine kE hwc [(390001,150001),(390003,150003)] rfl ?_|refine kF hwc [(390001,150001),(390003,150003)] rfl ?_|refine kE hsk [(1,150001),(3,150003)] rfl ?_|refine kF hsk [(1,150001),(3,150003)] rfl ?_|refine kE hwl [(1,150001),(3,150003)] rfl ?_|refine kF hwl [(1,150001),(3,150003)] rfl ?_|refine kV ?_)<;>(conv=>whnf))|refine kY ?_ ?_)
     all_goals first|(simp;done)|(simp [cR];done)|(rw [List.drop_zero];refine aC ?_;simp;done)|(rw [List.drop_zero];refine aC ?_;simp;omega)
    | false =>
     rw [hT] at hsk
     by_cases h32' : 32 ≤ w.players.length
     ·have hs : am w p = (w,3):=by unfold am;rw [if_neg (by rw [hR];simp),if_neg (by rw [hS,hI];simp),if_neg (by rw [hT];simp),if_pos h32']
      rw [hs]
      generalize lbK pid p.id w.players = at_ at *
      refine aF Tryz.func59 60 ?_
      conv=>whnf
      repeat' (first|exact trivial|((first|refine kL ?_|(refine ⟨fun hb=>?_,fun hb=>?_⟩<;>(try simp only [nrm] at hb)<;>try exact kZ hb)|refine kE hwc [(390001,150001),(390003,150003)] rfl ?_|refine kF hwc [(390001,150001),(390003,150003)] rfl ?_|refine kE hsk [(1,150001),(3,150003)] rfl ?_|refine kF hsk [(1,150001),(3,150003)] rfl ?_|refine kE hwl [(1,150001),(3,150003)] rfl ?_|refine kF hwl [(1,150001),(3,150003)] rfl ?_|refine kV ?_)<;>(conv=>whnf))|refine kY ?_ ?_)
      all_goals first|(simp;done)|(simp [cR];done)|(rw [List.drop_zero];refine aC ?_;simp;done)|(rw [List.drop_zero];refine aC ?_;simp;omega)
     ·have hs : am w p = (cR w (w.players.take (lbK pid p.id w.players) ++ p :: w.players.drop (lbK pid p.id w.players)),0):=by unfold am;rw [if_neg (by rw [hR];simp),if_neg (by rw [hS,hI];simp),if_neg (by rw [hT];simp),if_neg h32']
      rw [hs]
      generalize lbK pid p.id w.players = at_ at *
      refine aF Tryz.func59 60 ?_
      conv=>whnf
      repeat' (first|exact trivial|((first|refine kL ?_|(refine ⟨fun hb=>?_,fun hb=>?_⟩<;>(try simp only [nrm] at hb)<;>try exact kZ hb)|refine kE hwc [(390001,150001),(390003,150003)] rfl ?_|refine kF hwc [(390001,150001),(390003,150003)] rfl ?_|refine kE hsk [(1,150001),(3,150003)] rfl ?_|refine kF hsk [(1,150001),(3,150003)] rfl ?_|refine kE hwl [(1,150001),(3,150003)] rfl ?_|refine kF hwl [(1,150001),(3,150003)] rfl ?_|(refine isE 118 ?_;refine kE (rL w.players _ at_ p rfl hle (by omega)) [(1,150003),(3,117),(390001,150007)] rfl ?_)|(refine isD 118 ?_;refine kF (rL w.players _ at_ p rfl hle (by omega)) [(1,150003),(3,117),(390001,150007)] rfl ?_)|refine kV ?_)<;>(conv=>whnf))|refine kY ?_ ?_)
      all_goals first|(simp;done)|(simp [cR];done)|(rw [List.drop_zero];refine aC ?_;simp;done)|(rw [List.drop_zero];refine aC ?_;simp;omega)
open Go Go.RowKit Eng
theorem kq.okP {p : Player} (h : kq p) : OkP p:=⟨fun s hs=>(h.bag s hs).1,fun s hs=>(h.offer s hs).1,h.nb,h.no⟩
open Go Go.RowKit Eng
theorem iK.okC {c : Chunk} (h : iK c) : OkC c:=
 ⟨h.cells,fun x hx=>(h.heaps x hx).2.1,fun b hb=>⟨fun s hs=>((h.boxes b hb).2.1 s hs).1,by have:=(h.boxes b hb).2.2;unfold big;omega⟩,by have:=h.nc;unfold big;omega,by have:=h.nh;unfold big;omega,by have:=h.nb;unfold big;omega⟩
theorem iK.fitC {c : Chunk} (h : iK c) : fH c:=⟨h.nc,h.nh,h.nb,fun b hb=>(h.boxes b hb).2.2⟩
theorem Lg : Tryz.prog.underlying 22 = some (.int .u64):=by kernel_rfl
def Ko (n : Int) : Prop:=0 ≤ n ∧ n ≤ 18446744073709551615
theorem Kp : cq Tryz.prog 22 1 (fun n : Int=>[.lit (.int .u64 n)]) Ko:=mE Lg (by kernel_rfl)
theorem Fb : cq Tryz.prog 23 1 (fun l : List (El .chunk)=>[.vec .chunk l]) (fun l=>(∀ c ∈ l,iK c) ∧ l.length * 88 ≤ 140737488351232):=eQ .chunk (by kernel_rfl) (by kernel_rfl) (by kernel_rfl) Hf
theorem Dh : cq Tryz.prog 24 1 (fun l : List (El .player)=>[.vec .player l]) (fun l=>(∀ c ∈ l,kq c) ∧ l.length * 88 ≤ 140737488351232):=eQ .player (by kernel_rfl) (by kernel_rfl) (by kernel_rfl) E4
structure ow (w : Wld) : Prop where
 size : gr w.size
 seed : Ko w.seed
 tick : gr w.tick
 chunks : ∀ c ∈ w.chunks,iK c
 nc : w.chunks.length * 88 ≤ 140737488351232
 players : ∀ c ∈ w.players,kq c
 np : w.players.length * 88 ≤ 140737488351232
theorem B5 : Tryz.prog.underlying 26 = some (.struct (Tryz.prog.fieldsOf 26)):=by kernel_rfl
theorem Hj : cq Tryz.prog 26 5 (fun w : Wld=>bA w) ow:=
 f8 (dW B5 (by kernel_rfl) (by kernel_rfl) (aP el (aP Kp (aP el (aP Fb (aP Dh (fq _ _)))))))
  (fun p=>(⟨p.1,p.2.1,p.2.2.1,p.2.2.2.1,p.2.2.2.2.1⟩ : Wld)) (fun _=>rfl) (fun _=>rfl) fun a h=>⟨h.1,h.2.1,h.2.2.1,h.2.2.2.1.1,h.2.2.2.1.2,h.2.2.2.2.1.1,h.2.2.2.2.1.2⟩
theorem Hk : nS Tryz.prog 26 (fun w : Wld=>.agg (bA w)) ow:=Cy B5 Hj
theorem ow.okW {w : Wld} (h : ow w) : OkW w:=⟨fun c hc=>(h.chunks c hc).okC,fun c hc=>(h.chunks c hc).fitC,fun p hp=>(h.players p hp).okP,h.nc,h.np⟩
open Go Go.RowKit Eng
def sL (cs cs' : List AV) : Prop:=cs.length = cs'.length ∧ ∀ (i : Nat) c c',cs[i]? = some c → cs'[i]? = some c' → Le c c'
theorem sL.nil : sL [] []:=⟨rfl,by simp⟩
theorem sL.cons {c c' : AV} {cs cs' : List AV} (h : Le c c') (hs : sL cs cs') : sL (c :: cs) (c' :: cs'):=by
 refine ⟨by simp [hs.1],fun i x x' h1 h2=>?_⟩
 cases i with
 | zero=>simp at h1 h2;subst h1;subst h2;exact h
 | succ i=>simp at h1 h2;exact hs.2 i x x' h1 h2
theorem Le.agg {cs cs' : List AV} (h : sL cs cs') : Le (.agg cs) (.agg cs'):=fun w g lim x hr=>by
 cases hr with
 | agg _ xs hl hx =>
  refine .agg _ xs (by rw [← h.1];exact hl) fun i c' x hc hxx=>?_
  have hi : i < cs.length:=by rw [h.1];exact (List.getElem?_eq_some_iff.1 hc).1
  exact h.2 i _ c' (List.getElem?_eq_getElem hi) hc w g lim x (hx i _ x (List.getElem?_eq_getElem hi) hxx)
theorem ml {P : Program} {fid : FuncId} {args args' : List AV} {v : AV} (h : Api P fid args v) (hl : sL args' args) : Api P fid args' v:=by
 intro w g vs hm ha
 refine h w g vs hm ⟨by rw [← hl.1];exact ha.1,fun i c x hc hx=>?_⟩
 have hi : i < args'.length:=by rw [hl.1];exact (List.getElem?_eq_some_iff.1 hc).1
 exact hl.2 i _ c (List.getElem?_eq_getElem hi) hc w g 0 x (ha.2 i _ x (List.getElem?_eq_getElem hi) hx)
def w16 : Wld:=⟨16,0,0,[],[]⟩
theorem Kq : OkW w16:=⟨by simp [w16],by simp [w16],by simp [w16],by simp [w16],by simp [w16]⟩
theorem Hl : aO w16 = true:=by rfl
def bV (p : Player) : Bool:=a7 p && av 16 p.x p.y
theorem Kr (p : Player) : (am w16 p).2 = if bV p = true then 0 else 110:=by
 unfold am bV
 rw [if_neg (by rw [Hl];simp)]
 cases hS : a7 p<;>cases hI : av 16 p.x p.y<;>simp [show w16.size = 16 from rfl,hI,show w16.players = [] from rfl,aH]
end Go.Proofs.YtkojlembanldcaaGreat
