/- Contracts of players and worlds. -/
import Derived.Test.YtaecchphjploaaaGreatGd
set_option linter.unusedSimpArgs false
set_option linter.unusedVariables false
set_option maxRecDepth 100000
set_option maxHeartbeats 16000000
namespace Go.Proofs.YtaecchphjploaaaGreat
open Go Go.RowKit Eng
structure OkP (p : Player) : Prop where
 bag : ∀ s ∈ p.bag,bP s
 offer : ∀ s ∈ p.offer,bP s
 nb : p.bag.length * 16 ≤ 140737488351232
 no : p.offer.length * 16 ≤ 140737488351232
abbrev sm (p : Player) : List AV:=[i64 p.id,i64 p.x,i64 p.y,.vec .slot p.bag,i64 p.wth,.vec .slot p.offer,bol p.agrees]
abbrev cN (p : Player) : AV:=.agg [i64 p.id,i64 p.x,i64 p.y,.vec .slot p.bag,i64 p.wth,.vec .slot p.offer,bol p.agrees]
theorem lm (p : Player) (hp : OkP p) : Api Tryz.prog 74 [cN p] (cN p):=by
 have h1:=hp.nb
 have h2:=hp.no
 refine aF Tryz.func74 11 ?_
 conv=>whnf
 repeat' (first|exact trivial|((first|refine kL ?_|(refine ⟨fun hb=>?_,fun hb=>?_⟩<;>(try simp only [nrm] at hb)<;>try exact kZ hb)|(refine isE 125 ?_;refine kA (dl p.bag (by omega)) ?_)|(refine isD 125 ?_;refine kD (dl p.bag (by omega)) ?_)|(refine isE 125 ?_;refine kA (dl p.offer (by omega)) ?_)|(refine isD 125 ?_;refine kD (dl p.offer (by omega)) ?_)|refine kV ?_)<;>(conv=>whnf))|refine kY ?_ ?_)
def kq (l : List aG) : Bool:=decide ((l.length : Int) = 8) && cn l
def bN (p : Player) : Bool:=
 decide (0 ≤ p.id) && (decide (p.id ≤ 1073741824) && (kq p.bag && (if p.wth = -1 then decide ((p.offer.length : Int) = 0) && !p.agrees
  else decide (0 ≤ p.wth) && (decide (p.wth ≤ 1073741824) && (!(decide (p.wth = p.id)) && kq p.offer)))))
theorem sV (p : Player) (hp : OkP p) : Api Tryz.prog 63 [cN p] (bol (bN p)):=by
 have h1:=iz p.bag 8 (by have:=hp.nb;unfold big;omega) hp.bag
 have h2:=iz p.offer 8 (by have:=hp.no;unfold big;omega) hp.offer
 have h3:=hp.no
 change Api _ _ _ (bol (kq p.bag)) at h1
 change Api _ _ _ (bol (kq p.offer)) at h2
 unfold bN
 generalize kq p.bag = b1 at *
 generalize kq p.offer = b2 at *
 cases b1<;>cases b2<;>cases hag : p.agrees
 all_goals
  refine aF Tryz.func63 48 ?_
  conv=>whnf
  repeat' (first|exact trivial|((first|(refine ⟨fun hb=>?_,fun hb=>?_⟩<;>(try simp only [nrm] at hb)<;>try exact kZ hb)|refine kV ?_)<;>(conv=>whnf))|refine kY ?_ ?_)
  all_goals first
   | (refine congrArg Value.bool ?_;simp;done)
   | (refine congrArg Value.bool ?_;simp;omega)
   | (refine congrArg Value.bool ?_;simp [*];done)
   | (refine congrArg Value.bool ?_;simp [*];omega)
   | (refine congrArg Value.bool ?_;simp_all;done)
   | (refine congrArg Value.bool ?_;simp_all;omega)
   | (simp_all;done)
   | trace_state
theorem zD (p : Player) (hp : OkP p) : Api Tryz.prog 29 [cN p,cN p] (bol true):=by
 have h1:=dU p.bag p.bag (by have:=hp.nb;unfold big;omega)
 have h2:=dU p.offer p.offer (by have:=hp.no;unfold big;omega)
 rw [iR rfl (fun i _=>by simp [fR])] at h1 h2
 refine aF Tryz.func29 50 ?_
 exact fD0
open Go Go.RowKit Eng
structure Wld where
 size : Int
 seed : Int
 tick : Int
 chunks : List Chunk
 players : List Player
abbrev dw (w : Wld) : List AV:=[i64 w.size,.lit (.int .u64 w.seed),i64 w.tick,.vec .chunk w.chunks,.vec .player w.players]
abbrev eK (w : Wld) : AV:=.agg [i64 w.size,.lit (.int .u64 w.seed),i64 w.tick,.vec .chunk w.chunks,.vec .player w.players]
structure OkW (w : Wld) : Prop where
 chunks : ∀ c ∈ w.chunks,OkC c
 fit : ∀ c ∈ w.chunks,mS c
 players : ∀ p ∈ w.players,OkP p
 nc : w.chunks.length * 88 ≤ 140737488351232
 np : w.players.length * 88 ≤ 140737488351232
def wr8 (z : Int) : Int:=IntKind.i64.wrap (8 * z)
theorem vz {z : Int} (h : 0 ≤ z) (h2 : z ≤ 1000) : wr8 z = 8 * z:=by unfold wr8;rw [IntWalk.i64_left];exact IntWalk.wrap64_in _ (by omega)
def bB (size x y : Int) : Bool:=decide (0 ≤ min x y) && decide (max x y < wr8 size)
theorem mQ (w : Wld) (x y : Int) : Api Tryz.prog 53 [eK w,i64 x,i64 y] (bol (bB w.size x y)):=by
 refine aF Tryz.func53 17 ?_
 conv=>whnf
 repeat' (first|exact trivial|((first|refine kL ?_|(refine ⟨fun hb=>?_,fun hb=>?_⟩<;>(try simp only [nrm] at hb)<;>try exact kZ hb)|(refine .inr ?_)|refine kV ?_)<;>(conv=>whnf))|refine kY ?_ ?_)
 all_goals (refine congrArg Value.bool ?_;unfold bB;first|(rw [decide_eq_true hb,Bool.true_and];rfl)|(rw [decide_eq_false (Int.not_le.2 hb),Bool.false_and]))
def jE (a b : Int) : Int:=if a = 0 then b else a
theorem o8 (a b : Int) : Ev1 Tryz.prog 134 [.own .i64 1 0 2 (some 2)] [(1,.row .i64 [a,b])] (i64 (jE a b)) [(1,.row .i64 [a,b])]:=by
 refine eF Tryz.func134 17 ?_
 conv=>whnf
 refine aw.loopS aa (σ:=Nat) [3,6,7,8] (fun k=>[i64 0,.own .i64 1 0 2 none,i64 2,i64 k]) (fun _=>[(1,.row .i64 [a,b])]) (fun k=>k ≤ 2 ∧ (0 < k → a = 0) ∧ (1 < k → b = 0)) (fun k=>2 - k) 0 (by omega) ?_ ?_
 ·exact fD0
 ·rintro k ⟨hk,h1,h2⟩
  match k,hk with
  | 0,_ =>
   conv=>whnf
   repeat' (first|exact trivial|((first|(refine ⟨fun hb=>?_,fun hb=>?_⟩<;>(try simp only [nrm] at hb)<;>try exact kZ hb)|refine kV ?_)<;>(conv=>whnf))|refine kY ?_ ?_)
   ·have hb' : ¬ a = 0:=hb
    unfold jE;rw [if_neg hb'];rfl
   ·have hb' : a = 0:=hb
    refine .to 1 ⟨by omega,fun _=>hb',by omega⟩ (by omega) ?_
    exact fD0
  | 1,_ =>
   have h1':=h1 (by omega)
   conv=>whnf
   repeat' (first|exact trivial|((first|(refine ⟨fun hb=>?_,fun hb=>?_⟩<;>(try simp only [nrm] at hb)<;>try exact kZ hb)|refine kV ?_)<;>(conv=>whnf))|refine kY ?_ ?_)
   ·unfold jE;rw [if_pos h1'];rfl
   ·have hb' : b = 0:=hb
    refine .to 2 ⟨by omega,fun _=>h1',fun _=>hb'⟩ (by omega) ?_
    exact fD0
  | 2,_ =>
   have h1':=h1 (by omega)
   have h2':=h2 (by omega)
   conv=>whnf
   repeat' (first|exact trivial|((first|(refine ⟨fun hb=>?_,fun hb=>?_⟩<;>(try simp only [nrm] at hb)<;>try exact kZ hb)|refine kV ?_)<;>(conv=>whnf))|refine kY ?_ ?_)
   all_goals (unfold jE;rw [if_pos h1',h2'])
def bO (a b : Chunk) : Int:=jE (cW a.y b.y) (cW a.x b.x)
theorem sW (a b : Chunk) : Api Tryz.prog 58 [.agg (cells .chunk a),.agg (cells .chunk b)] (i64 (bO a b)):=by
 refine aF Tryz.func58 15 ?_
 conv=>whnf
 repeat' (first|exact trivial|((first|refine kL ?_|(refine ⟨fun hb=>?_,fun hb=>?_⟩<;>(try simp only [nrm] at hb)<;>try exact kZ hb)|(refine isE 134 ?_;refine kE (o8 (cW a.y b.y) (cW a.x b.x)) [(1,31)] rfl ?_)|(refine isD 134 ?_;refine kF (o8 (cW a.y b.y) (cW a.x b.x)) [(1,31)] rfl ?_)|(refine isE 135 ?_;refine kA (fq _ _) ?_)|(refine isD 135 ?_;refine kD (fq _ _) ?_)|refine kV ?_)<;>(conv=>whnf))|refine kY ?_ ?_)
theorem vB (a b : Player) : Api Tryz.prog 60 [.agg (cells .player a),.agg (cells .player b)] (i64 (cW a.id b.id)):=by
 refine aF Tryz.func60 8 ?_
 conv=>whnf
 repeat' (first|exact trivial|((first|refine kL ?_|(refine ⟨fun hb=>?_,fun hb=>?_⟩<;>(try simp only [nrm] at hb)<;>try exact kZ hb)|(refine isE 135 ?_;refine kA (fq _ _) ?_)|(refine isD 135 ?_;refine kD (fq _ _) ?_)|refine kV ?_)<;>(conv=>whnf))|refine kY ?_ ?_)
def bW {α : Type} (o : α → α → Int) : List α → Bool
 | a :: b :: r=>decide (o a b < 0) && bW o (b :: r)
 | _=>true
theorem nU {tt : Ty} {o : El tt → El tt → Int} {l : List (El tt)} {k : Nat} (h : k + 1 < l.length) : bW o (l.drop k) = (decide (o (elt tt l k) (elt tt l (k + 1)) < 0) && bW o (l.drop (k + 1))):=by
 rw [bJ (i:=k) (by omega),bJ (i:=k + 1) h]
 rfl
theorem pp {α : Type} {o : α → α → Int} {l : List α} {k : Nat} (h : l.length ≤ k + 1) : bW o (l.drop k) = true:=by
 have : (l.drop k).length ≤ 1:=by rw [List.length_drop];omega
 match l.drop k,this with
 | [],_=>rfl
 | [a],_=>rfl
theorem wV (l : List (El .chunk)) (hl : l.length ≤ 9000000000000000000) : Api Tryz.prog 57 [.vec .chunk l,.lit (.func (.func 58) #[] #[])] (bol (bW bO l)):=by
 refine aF Tryz.func57 22 ?_
 conv=>whnf
 refine aw.loopS aa (σ:=Nat) [0,1,5] (fun k=>[.vec .chunk l,.lit (.func (.func 58) #[] #[]),i64 ((k : Int) + 1)]) (fun _=>[]) (fun k=>k ≤ l.length ∧ bW bO (l.drop k) = bW bO l) (fun k=>l.length - k) 0 ⟨by omega,rfl⟩ ?_ ?_
 ·exact fD0
 ·rintro k ⟨hk,hr⟩
  by_cases hlt : k + 1 < l.length
  ·rw [nU (tt:=.chunk) hlt] at hr
   conv=>whnf
   repeat' (first|exact trivial|((first|refine kL ?_|(refine ⟨fun hb=>?_,fun hb=>?_⟩<;>(try simp only [nrm] at hb)<;>try exact kZ hb)|(refine isE 58 ?_;refine kA (sW _ _) ?_)|(refine isD 58 ?_;refine kD (sW _ _) ?_)|refine kV ?_)<;>(conv=>whnf))|refine kY ?_ ?_)
   all_goals rw [show ((k : Int) + 1 - 1).toNat = k by omega,show ((k : Int) + 1).toNat = k + 1 by omega] at hb
   ·have hb2 : 0 ≤ bO (elt .chunk l k) (elt .chunk l (k + 1)):=hb
    rw [← hr,decide_eq_false (by omega)];rfl
   ·have hb2 : bO (elt .chunk l k) (elt .chunk l (k + 1)) < 0:=hb
    rw [decide_eq_true hb2,Bool.true_and] at hr
    refine .to (k + 1) ⟨by omega,hr⟩ (by omega) ?_
    exact fD0
  ·rw [pp (by omega)] at hr
   conv=>whnf
   repeat' (first|exact trivial|((first|(refine ⟨fun hb=>?_,fun hb=>?_⟩<;>(try simp only [nrm] at hb)<;>try exact kZ hb)|refine kV ?_)<;>(conv=>whnf))|refine kY ?_ ?_)
   rw [← hr]
def idI (a b : Player) : Int:=cW a.id b.id
theorem wW (l : List (El .player)) (hl : l.length ≤ 9000000000000000000) : Api Tryz.prog 59 [.vec .player l,.lit (.func (.func 60) #[] #[])] (bol (bW idI l)):=by
 refine aF Tryz.func59 22 ?_
 conv=>whnf
 refine aw.loopS aa (σ:=Nat) [0,1,5] (fun k=>[.vec .player l,.lit (.func (.func 60) #[] #[]),i64 ((k : Int) + 1)]) (fun _=>[]) (fun k=>k ≤ l.length ∧ bW idI (l.drop k) = bW idI l) (fun k=>l.length - k) 0 ⟨by omega,rfl⟩ ?_ ?_
 ·exact fD0
 ·rintro k ⟨hk,hr⟩
  by_cases hlt : k + 1 < l.length
  ·rw [nU (tt:=.player) hlt] at hr
   conv=>whnf
   repeat' (first|exact trivial|((first|refine kL ?_|(refine ⟨fun hb=>?_,fun hb=>?_⟩<;>(try simp only [nrm] at hb)<;>try exact kZ hb)|(refine isE 60 ?_;refine kA (vB _ _) ?_)|(refine isD 60 ?_;refine kD (vB _ _) ?_)|refine kV ?_)<;>(conv=>whnf))|refine kY ?_ ?_)
   all_goals rw [show ((k : Int) + 1 - 1).toNat = k by omega,show ((k : Int) + 1).toNat = k + 1 by omega] at hb
   ·have hb2 : 0 ≤ idI (elt .player l k) (elt .player l (k + 1)):=hb
    rw [← hr,decide_eq_false (by omega)];rfl
   ·have hb2 : idI (elt .player l k) (elt .player l (k + 1)) < 0:=hb
    rw [decide_eq_true hb2,Bool.true_and] at hr
    refine .to (k + 1) ⟨by omega,hr⟩ (by omega) ?_
    exact fD0
  ·rw [pp (by omega)] at hr
   conv=>whnf
   repeat' (first|exact trivial|((first|(refine ⟨fun hb=>?_,fun hb=>?_⟩<;>(try simp only [nrm] at hb)<;>try exact kZ hb)|refine kV ?_)<;>(conv=>whnf))|refine kY ?_ ?_)
   rw [← hr]
theorem qa {l : List Player} : bW idI l = true ↔ ba (·.id) l:=by
 induction l with
 | nil=>simp [bW,ba]
 | cons a r ih =>
  cases r with
  | nil=>simp [bW,ba]
  | cons b r =>
   simp only [bW,Bool.and_eq_true,decide_eq_true_eq,ih,idI,ye]
   constructor
   ·rintro ⟨h1,h2⟩
    refine ⟨fun x hx=>?_,h2⟩
    rcases List.mem_cons.1 hx with rfl|hx
    ·exact h1
    ·have:=h2.1 x hx;simp only at this ⊢;omega
   ·rintro ⟨h1,h2⟩
    exact ⟨h1 b (by simp),h2⟩
def bi (c : Chunk) : Int:=16 * c.y + c.x
theorem sX {l : List Chunk} (hb : ∀ c ∈ l,0 ≤ c.x ∧ c.x < 16) : bW bO l = true ↔ ba bi l:=by
 induction l with
 | nil=>simp [bW,ba]
 | cons a r ih =>
  cases r with
  | nil=>simp [bW,ba]
  | cons b r =>
   have hab : bO a b < 0 ↔ bi a < bi b:=by
    have h1:=hb a (by simp)
    have h2:=hb b (by simp)
    unfold bO jE cW bi
    (repeat' split)<;>omega
   simp only [bW,Bool.and_eq_true,decide_eq_true_eq,ih (fun c hc=>hb c (by simp [hc])),hab]
   constructor
   ·rintro ⟨h1,h2⟩
    refine ⟨fun x hx=>?_,h2⟩
    rcases List.mem_cons.1 hx with rfl|hx
    ·exact h1
    ·have:=h2.1 x hx;omega
   ·rintro ⟨h1,h2⟩
    exact ⟨h1 b (by simp),h2⟩
def fP (size : Int) (c : Chunk) : Bool:=decide (size ≤ max c.x c.y) || !(ar c)
theorem zE (w : Wld) (c : Chunk) (hc : OkC c) : Ev1 Tryz.prog 54 [.agg (cells .chunk c),.ptr 0 0] [(0,.box (dw w))] (bol (fP w.size c)) [(0,.box (dw w))]:=by
 have h1:=jG c hc
 unfold fP
 cases hR : ar c
 all_goals
  rw [hR] at h1
  refine eF Tryz.func54 15 ?_
  conv=>whnf
  repeat' (first|exact trivial|((first|(refine ⟨fun hb=>?_,fun hb=>?_⟩<;>(try simp only [nrm] at hb)<;>try exact kZ hb)|refine kV ?_)<;>(conv=>whnf))|refine kY ?_ ?_)
  all_goals (refine congrArg Value.bool ?_;first|rfl|(rw [decide_eq_true hb];rfl)|(rw [decide_eq_false (by omega)];rfl)|(simp;omega))
theorem sY (w : Wld) (l : List (El .chunk)) (hl : l.length ≤ big) (hw : ∀ s ∈ l,OkC s) : Ev1 Tryz.prog 133 [.vec .chunk l,.clo (.func 54) [] [.ptr 0 0]] [(0,.box (dw w))] (i64 (am (fP w.size) l 0)) [(0,.box (dw w))]:=by
 unfold big at hl
 refine eF Tryz.func133 17 ?_
 conv=>whnf
 refine aw.loopS aa (σ:=Nat) [0,1,7,8] (fun k=>[.vec .chunk l,.clo (.func 54) [] [.ptr 0 0],i64 l.length,i64 k]) (fun _=>[(0,.box (dw w))]) (fun k=>k ≤ l.length ∧ am (fP w.size) (l.drop k) k = am (fP w.size) l 0) (fun k=>l.length - k) 0 ⟨by omega,rfl⟩ ?_ ?_
 ·exact fD0
 ·intro k ⟨hk,he⟩
  by_cases hlt : k < l.length
  ·rw [bJ hlt] at he
   simp only [am] at he
   have hcl:=zE w _ (hw _ (fQ (t:=.chunk) (i:=(k : Int)) (by omega) (by omega)))
   rw [Int.toNat_natCast] at hcl
   cases hP : (fP w.size) (elt .chunk l k) with
   | true =>
    rw [hP] at he hcl
    conv=>whnf
    repeat' (first|exact trivial|((first|refine kL ?_|(refine ⟨fun hb=>?_,fun hb=>?_⟩<;>(try simp only [nrm] at hb)<;>try exact kZ hb)|refine kE hcl [(0,0)] rfl ?_|refine kF hcl [(0,0)] rfl ?_|refine kV ?_)<;>(conv=>whnf))|refine kY ?_ ?_)
    rw [← he];rfl
   | false =>
    rw [hP] at he hcl
    conv=>whnf
    repeat' (first|exact trivial|((first|refine kL ?_|(refine ⟨fun hb=>?_,fun hb=>?_⟩<;>(try simp only [nrm] at hb)<;>try exact kZ hb)|refine kE hcl [(0,0)] rfl ?_|refine kF hcl [(0,0)] rfl ?_|refine kV ?_)<;>(conv=>whnf))|refine kY ?_ ?_)
    refine .to (k + 1) ⟨hlt,?_⟩ (by omega) ?_
    ·rw [← he];rfl
    ·exact fD0
  ·conv=>whnf
   repeat' (first|exact trivial|((first|(refine ⟨fun hb=>?_,fun hb=>?_⟩<;>(try simp only [nrm] at hb)<;>try exact kZ hb)|refine kV ?_)<;>(conv=>whnf))|refine kY ?_ ?_)
   have : k = l.length:=by omega
   subst this
   simp only [List.drop_length,am] at he
   rw [← he]
theorem Br (w : Wld) (l : List (El .chunk)) (hl : l.length ≤ big) (hw : ∀ s ∈ l,OkC s) : Ev1 Tryz.prog 56 [.vec .chunk l,.clo (.func 54) [] [.ptr 0 0]] [(0,.box (dw w))] (bol (l.any (fP w.size))) [(0,.box (dw w))]:=by
 refine eF Tryz.func56 7 ?_
 conv=>whnf
 repeat' (first|exact trivial|((first|refine kL ?_|(refine ⟨fun hb=>?_,fun hb=>?_⟩<;>(try simp only [nrm] at hb)<;>try exact kZ hb)|(refine isE 133 ?_;refine kE (sY w l hl hw) [(0,0)] rfl ?_)|(refine isD 133 ?_;refine kF (sY w l hl hw) [(0,0)] rfl ?_)|refine kV ?_)<;>(conv=>whnf))|refine kY ?_ ?_)
 all_goals (first|rw [jn]|skip)
def kr (size : Int) (p : Player) : Bool:=!(bN p) || !(bB size p.x p.y)
theorem zF (w : Wld) (p : Player) (hp : OkP p) : Ev1 Tryz.prog 62 [.agg (cells .player p),.ptr 0 0] [(0,.box (dw w))] (bol (kr w.size p)) [(0,.box (dw w))]:=by
 have h1:=sV p hp
 have h2:=mQ w p.x p.y
 unfold kr
 cases hR : bN p
 all_goals
  cases hQ : bB w.size p.x p.y
  all_goals
   rw [hR] at h1
   rw [hQ] at h2
   refine eF Tryz.func62 14 ?_
   conv=>whnf
   repeat' (first|exact trivial|((first|(refine ⟨fun hb=>?_,fun hb=>?_⟩<;>(try simp only [nrm] at hb)<;>try exact kZ hb)|refine kV ?_)<;>(conv=>whnf))|refine kY ?_ ?_)
theorem vC (w : Wld) (l : List (El .player)) (hl : l.length ≤ big) (hw : ∀ s ∈ l,OkP s) : Ev1 Tryz.prog 136 [.vec .player l,.clo (.func 62) [] [.ptr 0 0]] [(0,.box (dw w))] (i64 (am (kr w.size) l 0)) [(0,.box (dw w))]:=by
 unfold big at hl
 refine eF Tryz.func136 17 ?_
 conv=>whnf
 refine aw.loopS aa (σ:=Nat) [0,1,7,8] (fun k=>[.vec .player l,.clo (.func 62) [] [.ptr 0 0],i64 l.length,i64 k]) (fun _=>[(0,.box (dw w))]) (fun k=>k ≤ l.length ∧ am (kr w.size) (l.drop k) k = am (kr w.size) l 0) (fun k=>l.length - k) 0 ⟨by omega,rfl⟩ ?_ ?_
 ·exact fD0
 ·intro k ⟨hk,he⟩
  by_cases hlt : k < l.length
  ·rw [bJ hlt] at he
   simp only [am] at he
   have hcl:=zF w _ (hw _ (fQ (t:=.player) (i:=(k : Int)) (by omega) (by omega)))
   rw [Int.toNat_natCast] at hcl
   cases hP : (kr w.size) (elt .player l k) with
   | true =>
    rw [hP] at he hcl
    conv=>whnf
    repeat' (first|exact trivial|((first|refine kL ?_|(refine ⟨fun hb=>?_,fun hb=>?_⟩<;>(try simp only [nrm] at hb)<;>try exact kZ hb)|refine kE hcl [(0,0)] rfl ?_|refine kF hcl [(0,0)] rfl ?_|refine kV ?_)<;>(conv=>whnf))|refine kY ?_ ?_)
    rw [← he];rfl
   | false =>
    rw [hP] at he hcl
    conv=>whnf
    repeat' (first|exact trivial|((first|refine kL ?_|(refine ⟨fun hb=>?_,fun hb=>?_⟩<;>(try simp only [nrm] at hb)<;>try exact kZ hb)|refine kE hcl [(0,0)] rfl ?_|refine kF hcl [(0,0)] rfl ?_|refine kV ?_)<;>(conv=>whnf))|refine kY ?_ ?_)
    refine .to (k + 1) ⟨hlt,?_⟩ (by omega) ?_
    ·rw [← he];rfl
    ·exact fD0
  ·conv=>whnf
   repeat' (first|exact trivial|((first|(refine ⟨fun hb=>?_,fun hb=>?_⟩<;>(try simp only [nrm] at hb)<;>try exact kZ hb)|refine kV ?_)<;>(conv=>whnf))|refine kY ?_ ?_)
   have : k = l.length:=by omega
   subst this
   simp only [List.drop_length,am] at he
   rw [← he]
theorem Ds (w : Wld) (l : List (El .player)) (hl : l.length ≤ big) (hw : ∀ s ∈ l,OkP s) : Ev1 Tryz.prog 61 [.vec .player l,.clo (.func 62) [] [.ptr 0 0]] [(0,.box (dw w))] (bol (l.any (kr w.size))) [(0,.box (dw w))]:=by
 refine eF Tryz.func61 7 ?_
 conv=>whnf
 repeat' (first|exact trivial|((first|refine kL ?_|(refine ⟨fun hb=>?_,fun hb=>?_⟩<;>(try simp only [nrm] at hb)<;>try exact kZ hb)|(refine isE 136 ?_;refine kE (vC w l hl hw) [(0,0)] rfl ?_)|(refine isD 136 ?_;refine kF (vC w l hl hw) [(0,0)] rfl ?_)|refine kV ?_)<;>(conv=>whnf))|refine kY ?_ ?_)
 all_goals (first|rw [jn]|skip)
def jc (w : Wld) : Bool:=decide (1 ≤ w.size) && (decide (w.size ≤ 16) && (decide (0 ≤ w.tick) && (decide (w.tick ≤ 1099511627776) && decide ((w.players.length : Int) ≤ 32))))
def cd (w : Wld) : Bool:=jc w && (!(w.chunks.any (fP w.size)) && (bW bO w.chunks && (bW idI w.players && !(w.players.any (kr w.size)))))
theorem jF (w : Wld) (hw : OkW w) : Api Tryz.prog 19 [eK w] (bol (cd w)):=by
 have nc:=hw.nc
 have np:=hw.np
 have h1:=Br w w.chunks (by unfold big;omega) hw.chunks
 have h2:=wV w.chunks (by omega)
 have h3:=wW w.players (by omega)
 have h4:=Ds w w.players (by unfold big;omega) hw.players
 unfold cd
 by_cases hH : jc w = true
 ·rw [hH]
  simp only [jc,Bool.and_eq_true,decide_eq_true_eq] at hH
  cases hA : w.chunks.any (fP w.size)
  all_goals
   rw [hA] at h1
   cases hB : bW bO w.chunks
   all_goals
    rw [hB] at h2
    cases hC : bW idI w.players
    all_goals
     rw [hC] at h3
     cases hD : w.players.any (kr w.size)
     all_goals
      rw [hD] at h4
      refine aF Tryz.func19 49 ?_
      conv=>whnf
      repeat' (first|exact trivial|((first|refine kL ?_|(refine ⟨fun hb=>?_,fun hb=>?_⟩<;>(try simp only [nrm] at hb)<;>try exact kZ hb)|refine kE h1 [(0,2)] rfl ?_|refine kF h1 [(0,2)] rfl ?_|refine kE h4 [(0,2)] rfl ?_|refine kF h4 [(0,2)] rfl ?_|refine kV ?_)<;>(conv=>whnf))|refine kY ?_ ?_)
 ·rw [Bool.eq_false_iff.2 hH,Bool.false_and]
  simp only [jc,Bool.and_eq_true,decide_eq_true_eq] at hH
  refine aF Tryz.func19 49 ?_
  exact fD0
open Go Go.RowKit Eng
theorem Bt (l : List (El .player)) (i : Nat) (b : El .player) (hi : i < l.length) : (fx (l.take (i + 1) ++ l.drop i) i [b]).take (l.length + 1) = l.take i ++ b :: l.drop i:=by
 unfold fx
 have h1 : (l.take (i + 1) ++ l.drop i).take i = l.take i:=by
  rw [List.take_append_of_le_length (by simp;omega),List.take_take,Nat.min_eq_left (by omega)]
 have h2 : (l.take (i + 1) ++ l.drop i).drop (i + ([b] : List (El .player)).length) = l.drop i:=List.drop_left' (by simp;omega)
 rw [h1,h2]
 exact List.take_of_length_le (by simp;omega)
theorem Bu (l : List (El .player)) (i : Nat) (hi : i < l.length) : i ≤ (l.take (i + 1) ++ l.drop i).length:=by simp;omega
theorem Bv (l : List (El .player)) (i : Nat) (b : El .player) (hi : i < l.length) : l.length + 1 ≤ (fx (l.take (i + 1) ++ l.drop i) i [b]).length:=by simp [fx];omega
set_option maxHeartbeats 2000000 in
theorem wX (l : List (El .player)) (i : Nat) (b : El .player) (hi : i ≤ l.length) (hl : (l.length + 1) * 88 ≤ 140737488355328) (c : Nat) (hc : l.length ≤ c) : Ev1 Tryz.prog 75 [.own .player 1 0 l.length (some c),i64 i,.own .player 3 0 1 (some 1)] [(1,.row .player l),(3,.row .player [b])] (.own .player 390001 0 (l.length + 1) none) [(390001,.row .player (l.take i ++ b :: l.drop i))]:=by
 refine eF Tryz.func75 92 ?_
 conv=>whnf
 have e1 : ((i : Int) - 0).toNat = i:=by omega
 have e2 : ((l.length : Int) - (i : Int)).toNat = l.length - i:=by omega
 have e4 : ((l.length : Int) + 1 - (i : Int)).toNat = l.length + 1 - i:=by omega
 have e3 : List.take (l.length - i) (l.drop i) = l.drop i:=List.take_of_length_le (by simp)
 have e5 : ((i : Int) + 1).toNat = i + 1:=by omega
 have e6 : i + (l.length + 1 - i) = l.length + 1:=by omega
 have e7 : (((l.length + 1 : Nat) : Int) - (i : Int)).toNat = l.length + 1 - i:=by omega
 have e8 : (((l.length + 1 : Nat) : Int) - ((i : Int) + 1)).toNat = l.length - i:=by omega
 have e9 : ((l.length : Int) + 1 - ((i : Int) + 1)).toNat = l.length - i:=by omega
 have ea : ((l.length : Int) + 1).toNat = l.length + 1:=by omega
 have eb : min 1 (l.length + 1 - i) = 1:=by omega
 have ec : ((l.length : Int) + 1 - 0).toNat = l.length + 1:=by omega
 by_cases hcap : c < l.length + 1
 ·repeat' (first|exact trivial|((first|(refine ⟨fun hb=>?_,fun hb=>?_⟩<;>(try simp only [nrm] at hb)<;>try exact kZ hb)|refine kV ?_)<;>(conv=>whnf))|refine kY ?_ ?_)
  ·obtain rfl : i = l.length:=by omega
   simp only [List.take_length,List.drop_length]
   exact List.take_of_length_le (by simp)
  all_goals simp only [e1,e2,e3,e4,Int.natCast_one,e5,e6,e7,e8,e9,ea,eb,ec,Int.toNat_natCast,Int.toNat_zero,Nat.add_zero,Nat.zero_add,List.drop_zero,List.take_succ_cons,List.take_zero,List.length_cons,List.length_nil,Nat.min_self,List.length_drop]
  ·simp [fx];omega
  ·simp [fx];omega
  ·generalize hR : List.replicate (l.length + 1 - i) (fz Ty.player) = R
   have hRl : R.length = l.length + 1 - i:=by rw [← hR,List.length_replicate]
   have h1 : l.length + 1 = (i + 1) + (l.drop i).length:=by simp;omega
   rw [h1,ta _ _ _ (by simp [fx];omega)]
   have h2:=ta (l.take i ++ R) [b] i (by simp;omega)
   rw [List.length_singleton] at h2
   rw [h2,List.take_left' (by simp;omega)]
   simp
 ·have ed : min (l.length + 1 - i) (l.length - i) = l.length - i:=by omega
  have hX : fx l (i + 1) (l.drop i) = l.take (i + 1) ++ l.drop i:=by
   unfold fx
   rw [show l.drop (i + 1 + (l.drop i).length) = [] from List.drop_eq_nil_of_le (by simp;omega),List.append_nil]
  repeat' (first|exact trivial|((first|(refine ⟨fun hb=>?_,fun hb=>?_⟩<;>(try simp only [nrm] at hb)<;>try exact kZ hb)|refine kV ?_)<;>(conv=>whnf))|refine kY ?_ ?_)
  ·obtain rfl : i = l.length:=by omega
   simp only [List.take_length,List.drop_length]
   rw [← List.append_assoc,Nat.zero_add,List.take_length]
   have hlb : l.length + 1 = (l ++ [b]).length:=by rw [List.length_append];rfl
   exact List.take_left' hlb.symm
  all_goals simp only [e1,e2,e3,e4,Int.natCast_one,e5,e6,e7,e8,e9,ea,eb,ec,ed,Int.toNat_natCast,Int.toNat_zero,Nat.add_zero,Nat.zero_add,List.drop_zero,List.take_succ_cons,List.take_zero,List.length_cons,List.length_nil,Nat.min_self,List.length_drop,hX]
  ·exact Bu l i (by omega)
  ·exact Bv l i b (by omega)
  ·exact Bt l i b (by omega)
theorem zG (l : List (El .player)) (i : Nat) (b : El .player) (hi : i ≤ l.length) (hl : (l.length + 1) * 88 ≤ 140737488355328) : Ev1 Tryz.prog 75 [.own .player 1 0 l.length none,i64 i,.own .player 3 0 1 (some 1)] [(1,.row .player l),(3,.row .player [b])] (.own .player 390001 0 (l.length + 1) none) [(390001,.row .player (l.take i ++ b :: l.drop i))]:=
 Ev1.cap fun c hc=>wX l i b hi hl c hc
theorem pq (l : List (El .player)) (n : Nat) (i : Nat) (b : El .player) (hn : n = l.length) (hi : i ≤ l.length) (hl : (l.length + 1) * 88 ≤ 140737488355328) : Ev1 Tryz.prog 75 [.own .player 1 0 n none,i64 i,.own .player 3 0 1 (some 1)] [(1,.row .player l),(3,.row .player [b])] (.own .player 390001 0 (n + 1) none) [(390001,.row .player (l.take i ++ b :: l.drop i))]:=by
 subst hn;exact zG l i b hi hl
open Go Go.RowKit Eng
open Go Go.RowKit Eng
theorem qb (c : Chunk) (hc : mS c) : Api Tryz.prog 51 [bz c] (bz c):=by
 have h1:=hc.cells
 have h2:=hc.heaps
 have h3:=hc.boxes
 refine aF Tryz.func51 35 ?_
 conv=>whnf
 repeat' (first|exact trivial|((first|refine kL ?_|(refine ⟨fun hb=>?_,fun hb=>?_⟩<;>(try simp only [nrm] at hb)<;>try exact kZ hb)|(refine isE 122 ?_;refine kE (jd _ (by omega)) [(390001,150001)] rfl ?_)|(refine isD 122 ?_;refine kF (jd _ (by omega)) [(390001,150001)] rfl ?_)|(refine isE 123 ?_;refine kE (je _ (by omega)) [(390001,150003)] rfl ?_)|(refine isD 123 ?_;refine kF (je _ (by omega)) [(390001,150003)] rfl ?_)|(refine isE 124 ?_;refine kE (jf _ (by omega)) [(390001,150005)] rfl ?_)|(refine isD 124 ?_;refine kF (jf _ (by omega)) [(390001,150005)] rfl ?_)|refine kV ?_)<;>(conv=>whnf))|refine kY ?_ ?_)
 refine aw.loopS aa (σ:=Nat) [1,2,18,19] (fun k=>[.ptr 2 0,.ptr 4 0,i64 c.boxes.length,i64 k]) (fun _=>(2,.box (qW c 150001 150003 150005)) :: (4,.box (bj ⟨0,0,[],[],[]⟩)) :: qX c 150001 150003 150005) (fun k=>k ≤ c.boxes.length) (fun k=>c.boxes.length - k) 0 (by omega) ?_ ?_
 ·exact fD0
 ·intro k hk
  by_cases hlt : k < c.boxes.length
  ·have hbk:=hc.bags _ (ay (t:=.box) hlt)
   conv=>whnf
   repeat' (first|exact trivial|((first|refine kL ?_|(refine ⟨fun hb=>?_,fun hb=>?_⟩<;>(try simp only [nrm] at hb)<;>try exact kZ hb)|(refine isE 125 ?_;refine kA (dl (elt .box c.boxes k).bag (by omega)) ?_)|(refine isD 125 ?_;refine kD (dl (elt .box c.boxes k).bag (by omega)) ?_)|refine kV ?_)<;>(conv=>whnf))|refine kY ?_ ?_)
   refine .to (k + 1) hlt (by omega) ?_
   conv=>whnf
   repeat' (first|exact trivial|((first|(refine ⟨fun hb=>?_,fun hb=>?_⟩<;>(try simp only [nrm] at hb)<;>try exact kZ hb)|refine kV ?_)<;>(conv=>whnf))|refine kY ?_ ?_)
   all_goals (try simp only [Int.toNat_natCast,Nat.add_zero,List.length_set])
   all_goals (try rw [pu])
   all_goals exact List.take_length
  ·exact fD0
theorem fk {tt : Ty} (l : List (El tt)) (k : Nat) : l.set k (elt tt l k) = l:=by
 by_cases h : k < l.length
 ·have:=aL tt l k h
  rw [List.getElem?_eq_getElem h] at this
  rw [← Option.some.inj this];exact List.set_getElem_self h
 ·exact List.set_eq_of_length_le (by omega)
abbrev vD (w : Wld) (a b : Nat) : List AV:=[i64 w.size,.lit (.int .u64 w.seed),i64 w.tick,.own .chunk a 0 w.chunks.length none,.own .player b 0 w.players.length none]
abbrev qc (w : Wld) (a b : Nat) : Mem:=[(a,.row .chunk w.chunks),(b,.row .player w.players)]
theorem zH (w : Wld) (hw : OkW w) : Ev1 Tryz.prog 68 [eK w] [] (.agg (vD w 390001 390003)) (qc w 390001 390003):=by
 have h1:=hw.nc
 have h2:=hw.np
 refine eF Tryz.func68 45 ?_
 conv=>whnf
 repeat' (first|exact trivial|((first|refine kL ?_|(refine ⟨fun hb=>?_,fun hb=>?_⟩<;>(try simp only [nrm] at hb)<;>try exact kZ hb)|(refine isE 140 ?_;refine kE (nX _ (by omega)) [(390001,350001)] rfl ?_)|(refine isD 140 ?_;refine kF (nX _ (by omega)) [(390001,350001)] rfl ?_)|(refine isE 141 ?_;refine kE (nw _ (by omega)) [(390001,350003)] rfl ?_)|(refine isD 141 ?_;refine kF (nw _ (by omega)) [(390001,350003)] rfl ?_)|refine kV ?_)<;>(conv=>whnf))|refine kY ?_ ?_)
 refine aw.loopS aa (σ:=Nat) [1,2,16,17,18] (fun k=>[.ptr 200002 0,.ptr 200004 0,.own .chunk 350001 0 w.chunks.length none,i64 w.chunks.length,i64 k]) (fun _=>(200002,.box (vD w 350001 350003)) :: (200004,.box (dw ⟨0,0,0,[],[]⟩)) :: qc w 350001 350003) (fun k=>k ≤ w.chunks.length) (fun k=>w.chunks.length - k) 0 (by omega) ?_ ?_
 ·conv=>whnf
  repeat' (first|exact trivial|((first|(refine ⟨fun hb=>?_,fun hb=>?_⟩<;>(try simp only [nrm] at hb)<;>try exact kZ hb)|refine kV ?_)<;>(conv=>whnf))|refine kY ?_ ?_)
  all_goals first|exact List.take_length|exact (congrArg (List.take _) (fk (tt:=.chunk) _ _)).trans List.take_length|exact (congrArg (List.take _) (fk (tt:=.player) _ _)).trans List.take_length|(simp;done)|trace_state
 ·intro k hk
  by_cases hlt : k < w.chunks.length
  ·have hf:=hw.fit _ (ay (t:=.chunk) hlt)
   conv=>whnf
   repeat' (first|exact trivial|((first|refine kL ?_|(refine ⟨fun hb=>?_,fun hb=>?_⟩<;>(try simp only [nrm] at hb)<;>try exact kZ hb)|(refine isE 51 ?_;refine kA (qb (elt .chunk w.chunks k) hf) ?_)|(refine isD 51 ?_;refine kD (qb (elt .chunk w.chunks k) hf) ?_)|refine kV ?_)<;>(conv=>whnf))|refine kY ?_ ?_)
   refine .to (k + 1) hlt (by omega) ?_
   conv=>whnf
   repeat' (first|exact trivial|((first|(refine ⟨fun hb=>?_,fun hb=>?_⟩<;>(try simp only [nrm] at hb)<;>try exact kZ hb)|refine kV ?_)<;>(conv=>whnf))|refine kY ?_ ?_)
   all_goals first|exact List.take_length|exact (congrArg (List.take _) (fk (tt:=.chunk) _ _)).trans List.take_length|exact (congrArg (List.take _) (fk (tt:=.player) _ _)).trans List.take_length|(simp;done)|trace_state
  ·obtain rfl : k = w.chunks.length:=by omega
   conv=>whnf
   repeat' (first|exact trivial|((first|(refine ⟨fun hb=>?_,fun hb=>?_⟩<;>(try simp only [nrm] at hb)<;>try exact kZ hb)|refine kV ?_)<;>(conv=>whnf))|refine kY ?_ ?_)
   refine aw.loopS aa (σ:=Nat) [1,2,31,32,33] (fun k=>[.ptr 200002 0,.ptr 200004 0,.own .player 350003 0 w.players.length none,i64 w.players.length,i64 k]) (fun _=>(200002,.box (vD w 350001 350003)) :: (200004,.box (dw ⟨0,0,0,[],[]⟩)) :: qc w 350001 350003) (fun k=>k ≤ w.players.length) (fun k=>w.players.length - k) 0 (by omega) ?_ ?_
   ·conv=>whnf
    repeat' (first|exact trivial|((first|(refine ⟨fun hb=>?_,fun hb=>?_⟩<;>(try simp only [nrm] at hb)<;>try exact kZ hb)|refine kV ?_)<;>(conv=>whnf))|refine kY ?_ ?_)
    all_goals first|exact List.take_length|exact (congrArg (List.take _) (fk (tt:=.chunk) _ _)).trans List.take_length|exact (congrArg (List.take _) (fk (tt:=.player) _ _)).trans List.take_length|(simp;done)|trace_state
   ·intro k hk
    by_cases hlt : k < w.players.length
    ·have hf:=hw.players _ (ay (t:=.player) hlt)
     conv=>whnf
     repeat' (first|exact trivial|((first|refine kL ?_|(refine ⟨fun hb=>?_,fun hb=>?_⟩<;>(try simp only [nrm] at hb)<;>try exact kZ hb)|(refine isE 74 ?_;refine kA (lm (elt .player w.players k) hf) ?_)|(refine isD 74 ?_;refine kD (lm (elt .player w.players k) hf) ?_)|refine kV ?_)<;>(conv=>whnf))|refine kY ?_ ?_)
     refine .to (k + 1) hlt (by omega) ?_
     conv=>whnf
     repeat' (first|exact trivial|((first|(refine ⟨fun hb=>?_,fun hb=>?_⟩<;>(try simp only [nrm] at hb)<;>try exact kZ hb)|refine kV ?_)<;>(conv=>whnf))|refine kY ?_ ?_)
     all_goals first|exact List.take_length|exact (congrArg (List.take _) (fk (tt:=.chunk) _ _)).trans List.take_length|exact (congrArg (List.take _) (fk (tt:=.player) _ _)).trans List.take_length|(simp;done)|trace_state
    ·obtain rfl : k = w.players.length:=by omega
     conv=>whnf
     repeat' (first|exact trivial|((first|(refine ⟨fun hb=>?_,fun hb=>?_⟩<;>(try simp only [nrm] at hb)<;>try exact kZ hb)|refine kV ?_)<;>(conv=>whnf))|refine kY ?_ ?_)
     all_goals first|exact List.take_length|exact (congrArg (List.take _) (fk (tt:=.chunk) _ _)).trans List.take_length|exact (congrArg (List.take _) (fk (tt:=.player) _ _)).trans List.take_length|(simp;done)|trace_state
def gP (lt : Nat → Bool) (i j : Nat) : Nat:=if i < j then (if lt ((i + j) / 2) = true then gP lt ((i + j) / 2 + 1) j else gP lt i ((i + j) / 2)) else i
termination_by j - i
decreasing_by all_goals omega
theorem so {lt : Nat → Bool} {i j : Nat} (h : i < j) (h2 : lt ((i + j) / 2) = true) : gP lt i j = gP lt ((i + j) / 2 + 1) j:=by rw [gP,if_pos h,if_pos h2]
theorem sq {lt : Nat → Bool} {i j : Nat} (h : i < j) (h2 : lt ((i + j) / 2) = false) : gP lt i j = gP lt i ((i + j) / 2):=by rw [gP,if_pos h,if_neg (by rw [h2];simp)]
theorem mR {lt : Nat → Bool} {i j : Nat} (h : ¬ i < j) : gP lt i j = i:=by rw [gP,if_neg h]
theorem o9 {lt : Nat → Bool} {b m : Nat} (hlt : ∀ k < m,lt k = decide (k < b)) : ∀ (n i j : Nat),j - i ≤ n → i ≤ b → b ≤ j → j ≤ m → gP lt i j = b
 | 0,i,j,h,hi,hj,hm=>by rw [mR (by omega)];omega
 | n + 1,i,j,h,hi,hj,hm=>by
  by_cases hij : i < j
  ·have hk:=hlt ((i + j) / 2) (by omega)
   by_cases hb : (i + j) / 2 < b
   ·rw [decide_eq_true hb] at hk
    rw [so hij hk];exact o9 hlt n _ _ (by omega) (by omega) hj hm
   ·rw [decide_eq_false hb] at hk
    rw [sq hij hk];exact o9 hlt n _ _ (by omega) hi (by omega) (by omega)
  ·rw [mR hij];omega
abbrev pid : Player → Int:=Player.id
def bsP (l : List Player) (t : Int) : Nat:=gP (fun k=>decide ((elt .player l k).id < t)) 0 l.length
def fdP (l : List Player) (t : Int) : Bool:=decide (bsP l t < l.length) && ((elt .player l (bsP l t)).id == t)
theorem sZ {l : List Player} (h : ba pid l) (t : Int) : bsP l t = lbK pid t l ∧ fdP l t = (aY pid l t).isSome:=by
 have hat:=qZ t h
 have hle:=vK pid t l
 have e1 : bsP l t = lbK pid t l:=by
  refine o9 (m:=l.length) (fun k hk=>?_) _ 0 l.length (Nat.le_refl _) (by omega) hle (Nat.le_refl _)
  have hke:=aL .player l k hk
  -- the boundary
  have hb1 : ∀ {l : List Player} {k : Nat} {a : Player},l[k]? = some a → k < lbK pid t l → a.id < t:=by
   intro l
   induction l with
   | nil=>intro k a ha;simp at ha
   | cons b r ih =>
    intro k a ha hk
    simp only [lbK] at hk
    split at hk
    ·cases k with
     | zero=>simp at ha;subst ha;assumption
     | succ k=>simp at ha;exact ih ha (by omega)
    ·omega
  by_cases hkb : k < lbK pid t l
  ·rw [decide_eq_true hkb,decide_eq_true (hb1 hke hkb)]
  ·rw [decide_eq_false hkb,decide_eq_false]
   have hlt' : lbK pid t l < l.length:=by omega
   have hbe:=aL .player l _ hlt'
   have hge : t ≤ (elt .player l (lbK pid t l)).id:=by
    have : ∀ {l : List Player} {b : Player},l[lbK pid t l]? = some b → t ≤ b.id:=by
     intro l
     induction l with
     | nil=>intro b hb;simp at hb
     | cons c r ih =>
      intro b hb
      simp only [lbK] at hb
      split at hb
      ·simp at hb;exact ih hb
      ·rename_i hc;simp at hb;subst hb;simp only [pid] at hc;omega
    exact this hbe
   rcases Nat.eq_or_lt_of_le (Nat.le_of_not_lt hkb) with he|hl
   ·rw [← he];exact Int.not_lt.2 hge
   ·have h3 : (elt .player l (lbK pid t l)).id < (elt .player l k).id:=fS h hl hbe hke
    exact Int.not_lt.2 (Int.le_trans hge (Int.le_of_lt h3))
 refine ⟨e1,?_⟩
 unfold fdP
 rw [e1]
 by_cases hlt : lbK pid t l < l.length
 ·have hbe:=aL .player l _ hlt
  rw [hbe] at hat
  simp only at hat
  rw [decide_eq_true hlt,Bool.true_and,← hat]
  by_cases he : (elt .player l (lbK pid t l)).id = t
  ·rw [if_pos he];simpa using he
  ·rw [if_neg he];simpa using he
 ·rw [List.getElem?_eq_none (by omega)] at hat
  rw [decide_eq_false hlt,← hat];rfl
theorem s5 (p : Player) (t : Int) : Api Tryz.prog 146 [.agg (cells .player p),i64 t] (i64 (cW p.id t)):=by
 refine aF Tryz.func146 7 ?_
 conv=>whnf
 repeat' (first|exact trivial|((first|refine kL ?_|(refine ⟨fun hb=>?_,fun hb=>?_⟩<;>(try simp only [nrm] at hb)<;>try exact kZ hb)|(refine isE 135 ?_;refine kA (fq _ _) ?_)|(refine isD 135 ?_;refine kD (fq _ _) ?_)|refine kV ?_)<;>(conv=>whnf))|refine kY ?_ ?_)
theorem nV (l : List (El .player)) (t : Int) (hl : l.length ≤ 4000000000000000000) : Api Tryz.prog 145 [.vec .player l,i64 t,.lit (.func (.func 146) #[] #[])] (.tup [i64 (bsP l t),bol (fdP l t)]):=by
 refine aF Tryz.func145 46 ?_
 conv=>whnf
 refine aw.loopS aa (σ:=Nat × Nat) [0,1,2,8,9,10] (fun (i,j)=>[.vec .player l,i64 t,.lit (.func (.func 146) #[] #[]),i64 l.length,i64 i,i64 j]) (fun _=>[]) (fun (i,j)=>i ≤ j ∧ j ≤ l.length ∧ gP (fun k=>decide ((elt .player l k).id < t)) i j = bsP l t) (fun (i,j)=>j - i) (0,l.length) ⟨by omega,by omega,rfl⟩ ?_ ?_
 ·exact fD0
 ·rintro ⟨i,j⟩ ⟨h1,h2,h3⟩
  conv=>whnf
  repeat' (first|exact trivial|((first|refine kL ?_|(refine ⟨fun hb=>?_,fun hb=>?_⟩<;>(try simp only [nrm] at hb)<;>try exact kZ hb)|(rw [FP])|(refine isE 146 ?_;refine kA (s5 _ _) ?_)|(refine isD 146 ?_;refine kD (s5 _ _) ?_)|refine kV ?_)<;>(conv=>whnf))|refine kY ?_ ?_)
  ·rw [ye] at hb
   refine .to ((i + j) / 2 + 1,j) ⟨by omega,h2,by rw [← h3,so (i:=i) (j:=j) (by omega) (decide_eq_true hb)]⟩ (by dsimp only;omega) ?_
   exact fD0
  ·rw [E4] at hb
   refine .to (i,(i + j) / 2) ⟨by omega,by omega,by rw [← h3,sq (i:=i) (j:=j) (by omega) (decide_eq_false (Int.not_lt.2 hb))]⟩ (by dsimp only;omega) ?_
   exact fD0
  all_goals
   obtain rfl : i = j:=by omega
   rw [mR (by omega)] at h3
   subst h3
  ·rfl
  ·unfold fdP
   rw [decide_eq_true (by omega)];refine congrArg Value.bool ?_;rw [Bool.true_and,Bool.eq_iff_iff,beq_iff_eq,beq_iff_eq];exact E5
  ·rfl
  ·unfold fdP
   rw [decide_eq_false (by omega)];rfl
theorem vE (w : Wld) (t : Int) (hl : w.players.length ≤ 4000000000000000000) : Api Tryz.prog 73 [eK w,i64 t] (.tup [i64 (bsP w.players t),bol (fdP w.players t)]):=by
 refine aF Tryz.func73 10 ?_
 conv=>whnf
 repeat' (first|exact trivial|((first|refine kL ?_|(refine ⟨fun hb=>?_,fun hb=>?_⟩<;>(try simp only [nrm] at hb)<;>try exact kZ hb)|(refine isE 145 ?_;refine kA (nV w.players t hl) ?_)|(refine isD 145 ?_;refine kD (nV w.players t hl) ?_)|refine kV ?_)<;>(conv=>whnf))|refine kY ?_ ?_)
theorem Dt (w : Wld) (t : Int) (hl : w.players.length ≤ 4000000000000000000) : Ev1 Tryz.prog 73 [.agg (vD w 1 3),i64 t] (qc w 1 3) (.tup [i64 (bsP w.players t),bol (fdP w.players t)]) (qc w 1 3):=by
 refine Api.lend (vE w t hl) ?_ rfl
 conv=>whnf
 refine ⟨by omega,?_⟩
 conv=>whnf
 refine ⟨by omega,?_⟩
 conv=>whnf
 simp only [List.drop_zero,List.take_length]
theorem qR (w : Wld) (x y : Int) : Ev1 Tryz.prog 53 [.agg (vD w 1 3),i64 x,i64 y] (qc w 1 3) (bol (bB w.size x y)) (qc w 1 3):=by
 refine Api.lend (mQ w x y) ?_ rfl
 conv=>whnf
 refine ⟨by omega,?_⟩
 conv=>whnf
 refine ⟨by omega,?_⟩
 conv=>whnf
 simp only [List.drop_zero,List.take_length]
def gE (w : Wld) (l : List Player) : Wld:={ w with players:=l }
def bF (w : Wld) (p : Player) : Wld × Int:=
 if cd w = false then (w,113) else if bN p = false ∨ bB w.size p.x p.y = false then (w,110)
 else if (aY pid w.players p.id).isSome = true then (gE w (w.players.set (lbK pid p.id w.players) p),0)
 else if 32 ≤ w.players.length then (w,3) else (gE w (w.players.take (lbK pid p.id w.players) ++ p :: w.players.drop (lbK pid p.id w.players)),0)
theorem iQ {w : Wld} (h : cd w = true) : ba pid w.players ∧ w.players.length ≤ 32 ∧ 1 ≤ w.size ∧ w.size ≤ 16:=by
 simp only [cd,jc,Bool.and_eq_true,decide_eq_true_eq] at h
 exact ⟨qa.1 h.2.2.2.1,by omega,h.1.1,h.1.2.1⟩
theorem s6 (w : Wld) (p : Player) (hw : OkW w) (hp : OkP p) : Api Tryz.prog 24 [eK w,cN p] (.tup [eK (bF w p).1,i64 (bF w p).2]):=by
 have hnc:=hw.nc
 have hnp:=hw.np
 have hrt:=jF w hw
 have hsk:=Dt w p.id (by omega)
 have hso:=sV p hp
 have hwi:=mQ w p.x p.y
 have hwc:=zH w hw
 cases hR : cd w with
 | false =>
  rw [hR] at hrt
  have hs : bF w p = (w,113):=by unfold bF;rw [if_pos hR]
  rw [hs]
  refine aF Tryz.func24 60 ?_
  conv=>whnf
  repeat' (first|exact trivial|((first|refine kL ?_|(refine ⟨fun hb=>?_,fun hb=>?_⟩<;>(try simp only [nrm] at hb)<;>try exact kZ hb)|refine kE hwc [(390001,150001),(390003,150003)] rfl ?_|refine kF hwc [(390001,150001),(390003,150003)] rfl ?_|refine kE hsk [(1,150001),(3,150003)] rfl ?_|refine kF hsk [(1,150001),(3,150003)] rfl ?_|refine kV ?_)<;>(conv=>whnf))|refine kY ?_ ?_)
  all_goals first|(simp;done)|(simp [gE];done)|(rw [List.drop_zero];refine dx ?_;simp;done)|(rw [List.drop_zero];refine dx ?_;simp;omega)
 | true =>
  rw [hR] at hrt
  obtain ⟨hri,h32,hs1,hs2⟩:=iQ hR
  obtain ⟨e1,e2⟩:=sZ hri p.id
  rw [e1,e2] at hsk
  cases hS : bN p with
  | false =>
   rw [hS] at hso
   have hs : bF w p = (w,110):=by unfold bF;rw [if_neg (by rw [hR];simp),if_pos (.inl hS)]
   rw [hs]
   refine aF Tryz.func24 60 ?_
   conv=>whnf
   repeat' (first|exact trivial|((first|refine kL ?_|(refine ⟨fun hb=>?_,fun hb=>?_⟩<;>(try simp only [nrm] at hb)<;>try exact kZ hb)|refine kE hwc [(390001,150001),(390003,150003)] rfl ?_|refine kF hwc [(390001,150001),(390003,150003)] rfl ?_|refine kE hsk [(1,150001),(3,150003)] rfl ?_|refine kF hsk [(1,150001),(3,150003)] rfl ?_|refine kV ?_)<;>(conv=>whnf))|refine kY ?_ ?_)
   all_goals first|(simp;done)|(simp [gE];done)|(rw [List.drop_zero];refine dx ?_;simp;done)|(rw [List.drop_zero];refine dx ?_;simp;omega)
  | true =>
   rw [hS] at hso
   cases hI : bB w.size p.x p.y with
   | false =>
    rw [hI] at hwi
    have hs : bF w p = (w,110):=by unfold bF;rw [if_neg (by rw [hR];simp),if_pos (.inr hI)]
    rw [hs]
    have hwl:=qR w p.x p.y
    rw [hI] at hwl
    refine aF Tryz.func24 60 ?_
    conv=>whnf
    repeat' (first|exact trivial|((first|refine kL ?_|(refine ⟨fun hb=>?_,fun hb=>?_⟩<;>(try simp only [nrm] at hb)<;>try exact kZ hb)|refine kE hwc [(390001,150001),(390003,150003)] rfl ?_|refine kF hwc [(390001,150001),(390003,150003)] rfl ?_|refine kE hsk [(1,150001),(3,150003)] rfl ?_|refine kF hsk [(1,150001),(3,150003)] rfl ?_|refine kE hwl [(1,150001),(3,150003)] rfl ?_|refine kF hwl [(1,150001),(3,150003)] rfl ?_|refine kV ?_)<;>(conv=>whnf))|refine kY ?_ ?_)
    all_goals first|(simp;done)|(simp [gE];done)|(rw [List.drop_zero];refine dx ?_;simp;done)|(rw [List.drop_zero];refine dx ?_;simp;omega)
   | true =>
    have hwl:=qR w p.x p.y
    rw [hI] at hwl
    have hal:=lm p hp
    have hle:=vK pid p.id w.players
    cases hT : (aY pid w.players p.id).isSome with
    | true =>
     rw [hT] at hsk
     have hs : bF w p = (gE w (w.players.set (lbK pid p.id w.players) p),0):=by unfold bF;rw [if_neg (by rw [hR];simp),if_neg (by rw [hS,hI];simp),if_pos hT]
     rw [hs]
     have hlt : lbK pid p.id w.players < w.players.length:=by
      obtain ⟨b,hb⟩:=Option.isSome_iff_exists.1 hT
      exact (vO hri hb).1
     generalize lbK pid p.id w.players = at_ at *
     refine aF Tryz.func24 60 ?_
     conv=>whnf
     repeat' (first|exact trivial|((first|refine kL ?_|(refine ⟨fun hb=>?_,fun hb=>?_⟩<;>(try simp only [nrm] at hb)<;>try exact kZ hb)|refine kE hwc [(390001,150001),(390003,150003)] rfl ?_|refine kF hwc [(390001,150001),(390003,150003)] rfl ?_|refine kE hsk [(1,150001),(3,150003)] rfl ?_|refine kF hsk [(1,150001),(3,150003)] rfl ?_|refine kE hwl [(1,150001),(3,150003)] rfl ?_|refine kF hwl [(1,150001),(3,150003)] rfl ?_|refine kV ?_)<;>(conv=>whnf))|refine kY ?_ ?_)
     all_goals first|(simp;done)|(simp [gE];done)|(rw [List.drop_zero];refine dx ?_;simp;done)|(rw [List.drop_zero];refine dx ?_;simp;omega)
    | false =>
     rw [hT] at hsk
     by_cases h32' : 32 ≤ w.players.length
     ·have hs : bF w p = (w,3):=by unfold bF;rw [if_neg (by rw [hR];simp),if_neg (by rw [hS,hI];simp),if_neg (by rw [hT];simp),if_pos h32']
      rw [hs]
      generalize lbK pid p.id w.players = at_ at *
      refine aF Tryz.func24 60 ?_
      conv=>whnf
      repeat' (first|exact trivial|((first|refine kL ?_|(refine ⟨fun hb=>?_,fun hb=>?_⟩<;>(try simp only [nrm] at hb)<;>try exact kZ hb)|refine kE hwc [(390001,150001),(390003,150003)] rfl ?_|refine kF hwc [(390001,150001),(390003,150003)] rfl ?_|refine kE hsk [(1,150001),(3,150003)] rfl ?_|refine kF hsk [(1,150001),(3,150003)] rfl ?_|refine kE hwl [(1,150001),(3,150003)] rfl ?_|refine kF hwl [(1,150001),(3,150003)] rfl ?_|refine kV ?_)<;>(conv=>whnf))|refine kY ?_ ?_)
      all_goals first|(simp;done)|(simp [gE];done)|(rw [List.drop_zero];refine dx ?_;simp;done)|(rw [List.drop_zero];refine dx ?_;simp;omega)
     ·have hs : bF w p = (gE w (w.players.take (lbK pid p.id w.players) ++ p :: w.players.drop (lbK pid p.id w.players)),0):=by unfold bF;rw [if_neg (by rw [hR];simp),if_neg (by rw [hS,hI];simp),if_neg (by rw [hT];simp),if_neg h32']
      rw [hs]
      generalize lbK pid p.id w.players = at_ at *
      refine aF Tryz.func24 60 ?_
      conv=>whnf
      repeat' (first|exact trivial|((first|refine kL ?_|(refine ⟨fun hb=>?_,fun hb=>?_⟩<;>(try simp only [nrm] at hb)<;>try exact kZ hb)|refine kE hwc [(390001,150001),(390003,150003)] rfl ?_|refine kF hwc [(390001,150001),(390003,150003)] rfl ?_|refine kE hsk [(1,150001),(3,150003)] rfl ?_|refine kF hsk [(1,150001),(3,150003)] rfl ?_|refine kE hwl [(1,150001),(3,150003)] rfl ?_|refine kF hwl [(1,150001),(3,150003)] rfl ?_|(refine isE 75 ?_;refine kE (pq w.players _ at_ p rfl hle (by omega)) [(1,150003),(3,117),(390001,150007)] rfl ?_)|(refine isD 75 ?_;refine kF (pq w.players _ at_ p rfl hle (by omega)) [(1,150003),(3,117),(390001,150007)] rfl ?_)|refine kV ?_)<;>(conv=>whnf))|refine kY ?_ ?_)
      all_goals first|(simp;done)|(simp [gE];done)|(rw [List.drop_zero];refine dx ?_;simp;done)|(rw [List.drop_zero];refine dx ?_;simp;omega)
open Go Go.RowKit Eng
theorem lr.okP {p : Player} (h : lr p) : OkP p:=⟨fun s hs=>(h.bag s hs).1,fun s hs=>(h.offer s hs).1,h.nb,h.no⟩
open Go Go.RowKit Eng
theorem ku.okC {c : Chunk} (h : ku c) : OkC c:=
 ⟨h.cells,fun x hx=>(h.heaps x hx).2.1,fun b hb=>⟨fun s hs=>((h.boxes b hb).2.1 s hs).1,by have:=(h.boxes b hb).2.2;unfold big;omega⟩,by have:=h.nc;unfold big;omega,by have:=h.nh;unfold big;omega,by have:=h.nb;unfold big;omega⟩
theorem Bw : bZ Tryz.prog 23 1 (fun l : List (El .chunk)=>[.vec .chunk l]) (fun l=>(∀ c ∈ l,ku c) ∧ l.length * 88 ≤ 140737488351232):=fd .chunk (by kernel_rfl) (by kernel_rfl) (by kernel_rfl) Dz
open Go Go.RowKit Eng
def nW (cs cs' : List AV) : Prop:=cs.length = cs'.length ∧ ∀ (i : Nat) c c',cs[i]? = some c → cs'[i]? = some c' → Le c c'
theorem nW.nil : nW [] []:=⟨rfl,by simp⟩
theorem nW.cons {c c' : AV} {cs cs' : List AV} (h : Le c c') (hs : nW cs cs') : nW (c :: cs) (c' :: cs'):=by
 refine ⟨by simp [hs.1],fun i x x' h1 h2=>?_⟩
 cases i with
 | zero=>simp at h1 h2;subst h1;subst h2;exact h
 | succ i=>simp at h1 h2;exact hs.2 i x x' h1 h2
theorem Le.agg {cs cs' : List AV} (h : nW cs cs') : Le (.agg cs) (.agg cs'):=fun w g lim x hr=>by
 cases hr with
 | agg _ xs hl hx =>
  refine .agg _ xs (by rw [← h.1];exact hl) fun i c' x hc hxx=>?_
  have hi : i < cs.length:=by rw [h.1];exact (List.getElem?_eq_some_iff.1 hc).1
  exact h.2 i _ c' (List.getElem?_eq_getElem hi) hc w g lim x (hx i _ x (List.getElem?_eq_getElem hi) hxx)
theorem gQ {P : Program} {fid : FuncId} {args args' : List AV} {v : AV} (h : Api P fid args v) (hl : nW args' args) : Api P fid args' v:=by
 intro w g vs hm ha
 refine h w g vs hm ⟨by rw [← hl.1];exact ha.1,fun i c x hc hx=>?_⟩
 have hi : i < args'.length:=by rw [hl.1];exact (List.getElem?_eq_some_iff.1 hc).1
 exact hl.2 i _ c (List.getElem?_eq_getElem hi) hc w g 0 x (ha.2 i _ x (List.getElem?_eq_getElem hi) hx)
def sr (p : Player) : Bool:=bN p && bB 16 p.x p.y
end Go.Proofs.YtaecchphjploaaaGreat
