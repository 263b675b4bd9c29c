/- Contracts of players and worlds. -/
import Derived.Test.YtaecchphjploaaaGreatGd
set_option linter.unusedSimpArgs false
set_option linter.unusedVariables false
set_option maxRecDepth 100000
set_option maxHeartbeats 16000000
namespace Go.Proofs.YtaecchphjploaaaGreat
open Go Go.RowKit Eng
structure OkP (p : Player) : Prop where
 bag : ∀ s ∈ p.bag,okSlot s
 offer : ∀ s ∈ p.offer,okSlot s
 nb : p.bag.length * 16 ≤ 140737488351232
 no : p.offer.length * 16 ≤ 140737488351232
abbrev playerC (p : Player) : List AV:=[i64 p.id,i64 p.x,i64 p.y,.vec .slot p.bag,i64 p.wth,.vec .slot p.offer,bol p.agrees]
abbrev playerV (p : Player) : AV:=.agg [i64 p.id,i64 p.x,i64 p.y,.vec .slot p.bag,i64 p.wth,.vec .slot p.offer,bol p.agrees]
theorem alone_api (p : Player) (hp : OkP p) : Api Tryz.prog 74 [playerV p] (playerV p):=by
 have h1:=hp.nb
 have h2:=hp.no
 refine aF Tryz.func74 11 ?_
 conv=>whnf
 repeat' (first|exact trivial|((first|refine kL ?_|(refine ⟨fun hb=>?_,fun hb=>?_⟩<;>(try simp only [nrm] at hb)<;>try exact kZ hb)|(refine isE 125 ?_;refine kA (cloneV_slots p.bag (by omega)) ?_)|(refine isD 125 ?_;refine kD (cloneV_slots p.bag (by omega)) ?_)|(refine isE 125 ?_;refine kA (cloneV_slots p.offer (by omega)) ?_)|(refine isD 125 ?_;refine kD (cloneV_slots p.offer (by omega)) ?_)|refine kV ?_)<;>(conv=>whnf))|refine kY ?_ ?_)
def bag8 (l : List Slot) : Bool:=decide ((l.length : Int) = 8) && bagOk l
def soundB (p : Player) : Bool:=
 decide (0 ≤ p.id) && (decide (p.id ≤ 1073741824) && (bag8 p.bag && (if p.wth = -1 then decide ((p.offer.length : Int) = 0) && !p.agrees
  else decide (0 ≤ p.wth) && (decide (p.wth ≤ 1073741824) && (!(decide (p.wth = p.id)) && bag8 p.offer)))))
theorem sound_api (p : Player) (hp : OkP p) : Api Tryz.prog 63 [playerV p] (bol (soundB p)):=by
 have h1:=bagRight_api p.bag 8 (by have:=hp.nb;unfold big;omega) hp.bag
 have h2:=bagRight_api p.offer 8 (by have:=hp.no;unfold big;omega) hp.offer
 have h3:=hp.no
 change Api _ _ _ (bol (bag8 p.bag)) at h1
 change Api _ _ _ (bol (bag8 p.offer)) at h2
 unfold soundB
 generalize bag8 p.bag = b1 at *
 generalize bag8 p.offer = b2 at *
 cases b1<;>cases b2<;>cases hag : p.agrees
 all_goals
  refine aF Tryz.func63 48 ?_
  conv=>whnf
  repeat' (first|exact trivial|((first|(refine ⟨fun hb=>?_,fun hb=>?_⟩<;>(try simp only [nrm] at hb)<;>try exact kZ hb)|refine kV ?_)<;>(conv=>whnf))|refine kY ?_ ?_)
  all_goals first
   | (refine congrArg Value.bool ?_;simp;done)
   | (refine congrArg Value.bool ?_;simp;omega)
   | (refine congrArg Value.bool ?_;simp [*];done)
   | (refine congrArg Value.bool ?_;simp [*];omega)
   | (refine congrArg Value.bool ?_;simp_all;done)
   | (refine congrArg Value.bool ?_;simp_all;omega)
   | (simp_all;done)
   | trace_state
theorem sameP_self (p : Player) (hp : OkP p) : Api Tryz.prog 29 [playerV p,playerV p] (bol true):=by
 have h1:=sameSlots_api p.bag p.bag (by have:=hp.nb;unfold big;omega)
 have h2:=sameSlots_api p.offer p.offer (by have:=hp.no;unfold big;omega)
 rw [sameSlots_true rfl (fun i _=>by simp [eqSlot])] at h1 h2
 refine aF Tryz.func29 50 ?_
 exact fD0
open Go Go.RowKit Eng
structure Wld where
 size : Int
 seed : Int
 tick : Int
 chunks : List Chunk
 players : List Player
abbrev wldC (w : Wld) : List AV:=[i64 w.size,.lit (.int .u64 w.seed),i64 w.tick,.vec .chunk w.chunks,.vec .player w.players]
abbrev wldV (w : Wld) : AV:=.agg [i64 w.size,.lit (.int .u64 w.seed),i64 w.tick,.vec .chunk w.chunks,.vec .player w.players]
structure OkW (w : Wld) : Prop where
 chunks : ∀ c ∈ w.chunks,OkC c
 fit : ∀ c ∈ w.chunks,FitC c
 players : ∀ p ∈ w.players,OkP p
 nc : w.chunks.length * 88 ≤ 140737488351232
 np : w.players.length * 88 ≤ 140737488351232
def wr8 (z : Int) : Int:=IntKind.i64.wrap (8 * z)
theorem wr8_eq {z : Int} (h : 0 ≤ z) (h2 : z ≤ 1000) : wr8 z = 8 * z:=by unfold wr8;rw [IntWalk.i64_left];exact IntWalk.wrap64_in _ (by omega)
def withinW (size x y : Int) : Bool:=decide (0 ≤ min x y) && decide (max x y < wr8 size)
theorem within_api (w : Wld) (x y : Int) : Api Tryz.prog 53 [wldV w,i64 x,i64 y] (bol (withinW w.size x y)):=by
 refine aF Tryz.func53 17 ?_
 conv=>whnf
 repeat' (first|exact trivial|((first|refine kL ?_|(refine ⟨fun hb=>?_,fun hb=>?_⟩<;>(try simp only [nrm] at hb)<;>try exact kZ hb)|(refine .inr ?_)|refine kV ?_)<;>(conv=>whnf))|refine kY ?_ ?_)
 all_goals (refine congrArg Value.bool ?_;unfold withinW;first|(rw [decide_eq_true hb,Bool.true_and];rfl)|(rw [decide_eq_false (Int.not_le.2 hb),Bool.false_and]))
def cmpOr (a b : Int) : Int:=if a = 0 then b else a
theorem or_ev (a b : Int) : Ev1 Tryz.prog 134 [.own .i64 1 0 2 (some 2)] [(1,.row .i64 [a,b])] (i64 (cmpOr a b)) [(1,.row .i64 [a,b])]:=by
 refine eF Tryz.func134 17 ?_
 conv=>whnf
 refine Runs.loopS cfg_ok (σ:=Nat) [3,6,7,8] (fun k=>[i64 0,.own .i64 1 0 2 none,i64 2,i64 k]) (fun _=>[(1,.row .i64 [a,b])]) (fun k=>k ≤ 2 ∧ (0 < k → a = 0) ∧ (1 < k → b = 0)) (fun k=>2 - k) 0 (by omega) ?_ ?_
 ·exact fD0
 ·rintro k ⟨hk,h1,h2⟩
  match k,hk with
  | 0,_ =>
   conv=>whnf
   repeat' (first|exact trivial|((first|(refine ⟨fun hb=>?_,fun hb=>?_⟩<;>(try simp only [nrm] at hb)<;>try exact kZ hb)|refine kV ?_)<;>(conv=>whnf))|refine kY ?_ ?_)
   ·have hb' : ¬ a = 0:=hb
    unfold cmpOr;rw [if_neg hb'];rfl
   ·have hb' : a = 0:=hb
    refine .to 1 ⟨by omega,fun _=>hb',by omega⟩ (by omega) ?_
    exact fD0
  | 1,_ =>
   have h1':=h1 (by omega)
   conv=>whnf
   repeat' (first|exact trivial|((first|(refine ⟨fun hb=>?_,fun hb=>?_⟩<;>(try simp only [nrm] at hb)<;>try exact kZ hb)|refine kV ?_)<;>(conv=>whnf))|refine kY ?_ ?_)
   ·unfold cmpOr;rw [if_pos h1'];rfl
   ·have hb' : b = 0:=hb
    refine .to 2 ⟨by omega,fun _=>h1',fun _=>hb'⟩ (by omega) ?_
    exact fD0
  | 2,_ =>
   have h1':=h1 (by omega)
   have h2':=h2 (by omega)
   conv=>whnf
   repeat' (first|exact trivial|((first|(refine ⟨fun hb=>?_,fun hb=>?_⟩<;>(try simp only [nrm] at hb)<;>try exact kZ hb)|refine kV ?_)<;>(conv=>whnf))|refine kY ?_ ?_)
   all_goals (unfold cmpOr;rw [if_pos h1',h2'])
def orderI (a b : Chunk) : Int:=cmpOr (cmpI a.y b.y) (cmpI a.x b.x)
theorem order_api (a b : Chunk) : Api Tryz.prog 58 [.agg (cells .chunk a),.agg (cells .chunk b)] (i64 (orderI a b)):=by
 refine aF Tryz.func58 15 ?_
 conv=>whnf
 repeat' (first|exact trivial|((first|refine kL ?_|(refine ⟨fun hb=>?_,fun hb=>?_⟩<;>(try simp only [nrm] at hb)<;>try exact kZ hb)|(refine isE 134 ?_;refine kE (or_ev (cmpI a.y b.y) (cmpI a.x b.x)) [(1,31)] rfl ?_)|(refine isD 134 ?_;refine kF (or_ev (cmpI a.y b.y) (cmpI a.x b.x)) [(1,31)] rfl ?_)|(refine isE 135 ?_;refine kA (cmp_api _ _) ?_)|(refine isD 135 ?_;refine kD (cmp_api _ _) ?_)|refine kV ?_)<;>(conv=>whnf))|refine kY ?_ ?_)
theorem byId_api (a b : Player) : Api Tryz.prog 60 [.agg (cells .player a),.agg (cells .player b)] (i64 (cmpI a.id b.id)):=by
 refine aF Tryz.func60 8 ?_
 conv=>whnf
 repeat' (first|exact trivial|((first|refine kL ?_|(refine ⟨fun hb=>?_,fun hb=>?_⟩<;>(try simp only [nrm] at hb)<;>try exact kZ hb)|(refine isE 135 ?_;refine kA (cmp_api _ _) ?_)|(refine isD 135 ?_;refine kD (cmp_api _ _) ?_)|refine kV ?_)<;>(conv=>whnf))|refine kY ?_ ?_)
def risingB {α : Type} (o : α → α → Int) : List α → Bool
 | a :: b :: r=>decide (o a b < 0) && risingB o (b :: r)
 | _=>true
theorem risingB_step {tt : Ty} {o : El tt → El tt → Int} {l : List (El tt)} {k : Nat} (h : k + 1 < l.length) : risingB o (l.drop k) = (decide (o (elt tt l k) (elt tt l (k + 1)) < 0) && risingB o (l.drop (k + 1))):=by
 rw [drop_elt (i:=k) (by omega),drop_elt (i:=k + 1) h]
 rfl
theorem risingB_end {α : Type} {o : α → α → Int} {l : List α} {k : Nat} (h : l.length ≤ k + 1) : risingB o (l.drop k) = true:=by
 have : (l.drop k).length ≤ 1:=by rw [List.length_drop];omega
 match l.drop k,this with
 | [],_=>rfl
 | [a],_=>rfl
theorem risingC_api (l : List (El .chunk)) (hl : l.length ≤ 9000000000000000000) : Api Tryz.prog 57 [.vec .chunk l,.lit (.func (.func 58) #[] #[])] (bol (risingB orderI l)):=by
 refine aF Tryz.func57 22 ?_
 conv=>whnf
 refine Runs.loopS cfg_ok (σ:=Nat) [0,1,5] (fun k=>[.vec .chunk l,.lit (.func (.func 58) #[] #[]),i64 ((k : Int) + 1)]) (fun _=>[]) (fun k=>k ≤ l.length ∧ risingB orderI (l.drop k) = risingB orderI l) (fun k=>l.length - k) 0 ⟨by omega,rfl⟩ ?_ ?_
 ·exact fD0
 ·rintro k ⟨hk,hr⟩
  by_cases hlt : k + 1 < l.length
  ·rw [risingB_step (tt:=.chunk) hlt] at hr
   conv=>whnf
   repeat' (first|exact trivial|((first|refine kL ?_|(refine ⟨fun hb=>?_,fun hb=>?_⟩<;>(try simp only [nrm] at hb)<;>try exact kZ hb)|(refine isE 58 ?_;refine kA (order_api _ _) ?_)|(refine isD 58 ?_;refine kD (order_api _ _) ?_)|refine kV ?_)<;>(conv=>whnf))|refine kY ?_ ?_)
   all_goals rw [show ((k : Int) + 1 - 1).toNat = k by omega,show ((k : Int) + 1).toNat = k + 1 by omega] at hb
   ·have hb2 : 0 ≤ orderI (elt .chunk l k) (elt .chunk l (k + 1)):=hb
    rw [← hr,decide_eq_false (by omega)];rfl
   ·have hb2 : orderI (elt .chunk l k) (elt .chunk l (k + 1)) < 0:=hb
    rw [decide_eq_true hb2,Bool.true_and] at hr
    refine .to (k + 1) ⟨by omega,hr⟩ (by omega) ?_
    exact fD0
  ·rw [risingB_end (by omega)] at hr
   conv=>whnf
   repeat' (first|exact trivial|((first|(refine ⟨fun hb=>?_,fun hb=>?_⟩<;>(try simp only [nrm] at hb)<;>try exact kZ hb)|refine kV ?_)<;>(conv=>whnf))|refine kY ?_ ?_)
   rw [← hr]
def idI (a b : Player) : Int:=cmpI a.id b.id
theorem risingP_api (l : List (El .player)) (hl : l.length ≤ 9000000000000000000) : Api Tryz.prog 59 [.vec .player l,.lit (.func (.func 60) #[] #[])] (bol (risingB idI l)):=by
 refine aF Tryz.func59 22 ?_
 conv=>whnf
 refine Runs.loopS cfg_ok (σ:=Nat) [0,1,5] (fun k=>[.vec .player l,.lit (.func (.func 60) #[] #[]),i64 ((k : Int) + 1)]) (fun _=>[]) (fun k=>k ≤ l.length ∧ risingB idI (l.drop k) = risingB idI l) (fun k=>l.length - k) 0 ⟨by omega,rfl⟩ ?_ ?_
 ·exact fD0
 ·rintro k ⟨hk,hr⟩
  by_cases hlt : k + 1 < l.length
  ·rw [risingB_step (tt:=.player) hlt] at hr
   conv=>whnf
   repeat' (first|exact trivial|((first|refine kL ?_|(refine ⟨fun hb=>?_,fun hb=>?_⟩<;>(try simp only [nrm] at hb)<;>try exact kZ hb)|(refine isE 60 ?_;refine kA (byId_api _ _) ?_)|(refine isD 60 ?_;refine kD (byId_api _ _) ?_)|refine kV ?_)<;>(conv=>whnf))|refine kY ?_ ?_)
   all_goals rw [show ((k : Int) + 1 - 1).toNat = k by omega,show ((k : Int) + 1).toNat = k + 1 by omega] at hb
   ·have hb2 : 0 ≤ idI (elt .player l k) (elt .player l (k + 1)):=hb
    rw [← hr,decide_eq_false (by omega)];rfl
   ·have hb2 : idI (elt .player l k) (elt .player l (k + 1)) < 0:=hb
    rw [decide_eq_true hb2,Bool.true_and] at hr
    refine .to (k + 1) ⟨by omega,hr⟩ (by omega) ?_
    exact fD0
  ·rw [risingB_end (by omega)] at hr
   conv=>whnf
   repeat' (first|exact trivial|((first|(refine ⟨fun hb=>?_,fun hb=>?_⟩<;>(try simp only [nrm] at hb)<;>try exact kZ hb)|refine kV ?_)<;>(conv=>whnf))|refine kY ?_ ?_)
   rw [← hr]
theorem rises_of {l : List Player} : risingB idI l = true ↔ risesK (·.id) l:=by
 induction l with
 | nil=>simp [risingB,risesK]
 | cons a r ih =>
  cases r with
  | nil=>simp [risingB,risesK]
  | cons b r =>
   simp only [risingB,Bool.and_eq_true,decide_eq_true_eq,ih,idI,cmpI_lt]
   constructor
   ·rintro ⟨h1,h2⟩
    refine ⟨fun x hx=>?_,h2⟩
    rcases List.mem_cons.1 hx with rfl|hx
    ·exact h1
    ·have:=h2.1 x hx;simp only at this ⊢;omega
   ·rintro ⟨h1,h2⟩
    exact ⟨h1 b (by simp),h2⟩
def keyC (c : Chunk) : Int:=16 * c.y + c.x
theorem rises_ofC {l : List Chunk} (hb : ∀ c ∈ l,0 ≤ c.x ∧ c.x < 16) : risingB orderI l = true ↔ risesK keyC l:=by
 induction l with
 | nil=>simp [risingB,risesK]
 | cons a r ih =>
  cases r with
  | nil=>simp [risingB,risesK]
  | cons b r =>
   have hab : orderI a b < 0 ↔ keyC a < keyC b:=by
    have h1:=hb a (by simp)
    have h2:=hb b (by simp)
    unfold orderI cmpOr cmpI keyC
    (repeat' split)<;>omega
   simp only [risingB,Bool.and_eq_true,decide_eq_true_eq,ih (fun c hc=>hb c (by simp [hc])),hab]
   constructor
   ·rintro ⟨h1,h2⟩
    refine ⟨fun x hx=>?_,h2⟩
    rcases List.mem_cons.1 hx with rfl|hx
    ·exact h1
    ·have:=h2.1 x hx;omega
   ·rintro ⟨h1,h2⟩
    exact ⟨h1 b (by simp),h2⟩
def wrongC (size : Int) (c : Chunk) : Bool:=decide (size ≤ max c.x c.y) || !(rightB c)
theorem right1C_ev (w : Wld) (c : Chunk) (hc : OkC c) : Ev1 Tryz.prog 54 [.agg (cells .chunk c),.ptr 0 0] [(0,.box (wldC w))] (bol (wrongC w.size c)) [(0,.box (wldC w))]:=by
 have h1:=cright_api c hc
 unfold wrongC
 cases hR : rightB c
 all_goals
  rw [hR] at h1
  refine eF Tryz.func54 15 ?_
  conv=>whnf
  repeat' (first|exact trivial|((first|(refine ⟨fun hb=>?_,fun hb=>?_⟩<;>(try simp only [nrm] at hb)<;>try exact kZ hb)|refine kV ?_)<;>(conv=>whnf))|refine kY ?_ ?_)
  all_goals (refine congrArg Value.bool ?_;first|rfl|(rw [decide_eq_true hb];rfl)|(rw [decide_eq_false (by omega)];rfl)|(simp;omega))
theorem idx_wrong (w : Wld) (l : List (El .chunk)) (hl : l.length ≤ big) (hw : ∀ s ∈ l,OkC s) : Ev1 Tryz.prog 133 [.vec .chunk l,.clo (.func 54) [] [.ptr 0 0]] [(0,.box (wldC w))] (i64 (idxGo (wrongC w.size) l 0)) [(0,.box (wldC w))]:=by
 unfold big at hl
 refine eF Tryz.func133 17 ?_
 conv=>whnf
 refine Runs.loopS cfg_ok (σ:=Nat) [0,1,7,8] (fun k=>[.vec .chunk l,.clo (.func 54) [] [.ptr 0 0],i64 l.length,i64 k]) (fun _=>[(0,.box (wldC w))]) (fun k=>k ≤ l.length ∧ idxGo (wrongC w.size) (l.drop k) k = idxGo (wrongC w.size) l 0) (fun k=>l.length - k) 0 ⟨by omega,rfl⟩ ?_ ?_
 ·exact fD0
 ·intro k ⟨hk,he⟩
  by_cases hlt : k < l.length
  ·rw [drop_elt hlt] at he
   simp only [idxGo] at he
   have hcl:=right1C_ev w _ (hw _ (elt_mem' (t:=.chunk) (i:=(k : Int)) (by omega) (by omega)))
   rw [Int.toNat_natCast] at hcl
   cases hP : (wrongC w.size) (elt .chunk l k) with
   | true =>
    rw [hP] at he hcl
    conv=>whnf
    repeat' (first|exact trivial|((first|refine kL ?_|(refine ⟨fun hb=>?_,fun hb=>?_⟩<;>(try simp only [nrm] at hb)<;>try exact kZ hb)|refine kE hcl [(0,0)] rfl ?_|refine kF hcl [(0,0)] rfl ?_|refine kV ?_)<;>(conv=>whnf))|refine kY ?_ ?_)
    rw [← he];rfl
   | false =>
    rw [hP] at he hcl
    conv=>whnf
    repeat' (first|exact trivial|((first|refine kL ?_|(refine ⟨fun hb=>?_,fun hb=>?_⟩<;>(try simp only [nrm] at hb)<;>try exact kZ hb)|refine kE hcl [(0,0)] rfl ?_|refine kF hcl [(0,0)] rfl ?_|refine kV ?_)<;>(conv=>whnf))|refine kY ?_ ?_)
    refine .to (k + 1) ⟨hlt,?_⟩ (by omega) ?_
    ·rw [← he];rfl
    ·exact fD0
  ·conv=>whnf
   repeat' (first|exact trivial|((first|(refine ⟨fun hb=>?_,fun hb=>?_⟩<;>(try simp only [nrm] at hb)<;>try exact kZ hb)|refine kV ?_)<;>(conv=>whnf))|refine kY ?_ ?_)
   have : k = l.length:=by omega
   subst this
   simp only [List.drop_length,idxGo] at he
   rw [← he]
theorem has_wrong (w : Wld) (l : List (El .chunk)) (hl : l.length ≤ big) (hw : ∀ s ∈ l,OkC s) : Ev1 Tryz.prog 56 [.vec .chunk l,.clo (.func 54) [] [.ptr 0 0]] [(0,.box (wldC w))] (bol (l.any (wrongC w.size))) [(0,.box (wldC w))]:=by
 refine eF Tryz.func56 7 ?_
 conv=>whnf
 repeat' (first|exact trivial|((first|refine kL ?_|(refine ⟨fun hb=>?_,fun hb=>?_⟩<;>(try simp only [nrm] at hb)<;>try exact kZ hb)|(refine isE 133 ?_;refine kE (idx_wrong w l hl hw) [(0,0)] rfl ?_)|(refine isD 133 ?_;refine kF (idx_wrong w l hl hw) [(0,0)] rfl ?_)|refine kV ?_)<;>(conv=>whnf))|refine kY ?_ ?_)
 all_goals (first|rw [idxGo_any]|skip)
def badP (size : Int) (p : Player) : Bool:=!(soundB p) || !(withinW size p.x p.y)
theorem right2P_ev (w : Wld) (p : Player) (hp : OkP p) : Ev1 Tryz.prog 62 [.agg (cells .player p),.ptr 0 0] [(0,.box (wldC w))] (bol (badP w.size p)) [(0,.box (wldC w))]:=by
 have h1:=sound_api p hp
 have h2:=within_api w p.x p.y
 unfold badP
 cases hR : soundB p
 all_goals
  cases hQ : withinW w.size p.x p.y
  all_goals
   rw [hR] at h1
   rw [hQ] at h2
   refine eF Tryz.func62 14 ?_
   conv=>whnf
   repeat' (first|exact trivial|((first|(refine ⟨fun hb=>?_,fun hb=>?_⟩<;>(try simp only [nrm] at hb)<;>try exact kZ hb)|refine kV ?_)<;>(conv=>whnf))|refine kY ?_ ?_)
theorem idx_badP (w : Wld) (l : List (El .player)) (hl : l.length ≤ big) (hw : ∀ s ∈ l,OkP s) : Ev1 Tryz.prog 136 [.vec .player l,.clo (.func 62) [] [.ptr 0 0]] [(0,.box (wldC w))] (i64 (idxGo (badP w.size) l 0)) [(0,.box (wldC w))]:=by
 unfold big at hl
 refine eF Tryz.func136 17 ?_
 conv=>whnf
 refine Runs.loopS cfg_ok (σ:=Nat) [0,1,7,8] (fun k=>[.vec .player l,.clo (.func 62) [] [.ptr 0 0],i64 l.length,i64 k]) (fun _=>[(0,.box (wldC w))]) (fun k=>k ≤ l.length ∧ idxGo (badP w.size) (l.drop k) k = idxGo (badP w.size) l 0) (fun k=>l.length - k) 0 ⟨by omega,rfl⟩ ?_ ?_
 ·exact fD0
 ·intro k ⟨hk,he⟩
  by_cases hlt : k < l.length
  ·rw [drop_elt hlt] at he
   simp only [idxGo] at he
   have hcl:=right2P_ev w _ (hw _ (elt_mem' (t:=.player) (i:=(k : Int)) (by omega) (by omega)))
   rw [Int.toNat_natCast] at hcl
   cases hP : (badP w.size) (elt .player l k) with
   | true =>
    rw [hP] at he hcl
    conv=>whnf
    repeat' (first|exact trivial|((first|refine kL ?_|(refine ⟨fun hb=>?_,fun hb=>?_⟩<;>(try simp only [nrm] at hb)<;>try exact kZ hb)|refine kE hcl [(0,0)] rfl ?_|refine kF hcl [(0,0)] rfl ?_|refine kV ?_)<;>(conv=>whnf))|refine kY ?_ ?_)
    rw [← he];rfl
   | false =>
    rw [hP] at he hcl
    conv=>whnf
    repeat' (first|exact trivial|((first|refine kL ?_|(refine ⟨fun hb=>?_,fun hb=>?_⟩<;>(try simp only [nrm] at hb)<;>try exact kZ hb)|refine kE hcl [(0,0)] rfl ?_|refine kF hcl [(0,0)] rfl ?_|refine kV ?_)<;>(conv=>whnf))|refine kY ?_ ?_)
    refine .to (k + 1) ⟨hlt,?_⟩ (by omega) ?_
    ·rw [← he];rfl
    ·exact fD0
  ·conv=>whnf
   repeat' (first|exact trivial|((first|(refine ⟨fun hb=>?_,fun hb=>?_⟩<;>(try simp only [nrm] at hb)<;>try exact kZ hb)|refine kV ?_)<;>(conv=>whnf))|refine kY ?_ ?_)
   have : k = l.length:=by omega
   subst this
   simp only [List.drop_length,idxGo] at he
   rw [← he]
theorem has_badP (w : Wld) (l : List (El .player)) (hl : l.length ≤ big) (hw : ∀ s ∈ l,OkP s) : Ev1 Tryz.prog 61 [.vec .player l,.clo (.func 62) [] [.ptr 0 0]] [(0,.box (wldC w))] (bol (l.any (badP w.size))) [(0,.box (wldC w))]:=by
 refine eF Tryz.func61 7 ?_
 conv=>whnf
 repeat' (first|exact trivial|((first|refine kL ?_|(refine ⟨fun hb=>?_,fun hb=>?_⟩<;>(try simp only [nrm] at hb)<;>try exact kZ hb)|(refine isE 136 ?_;refine kE (idx_badP w l hl hw) [(0,0)] rfl ?_)|(refine isD 136 ?_;refine kF (idx_badP w l hl hw) [(0,0)] rfl ?_)|refine kV ?_)<;>(conv=>whnf))|refine kY ?_ ?_)
 all_goals (first|rw [idxGo_any]|skip)
def headW (w : Wld) : Bool:=decide (1 ≤ w.size) && (decide (w.size ≤ 16) && (decide (0 ≤ w.tick) && (decide (w.tick ≤ 1099511627776) && decide ((w.players.length : Int) ≤ 32))))
def rightW (w : Wld) : Bool:=headW w && (!(w.chunks.any (wrongC w.size)) && (risingB orderI w.chunks && (risingB idI w.players && !(w.players.any (badP w.size)))))
theorem rightW_api (w : Wld) (hw : OkW w) : Api Tryz.prog 19 [wldV w] (bol (rightW w)):=by
 have nc:=hw.nc
 have np:=hw.np
 have h1:=has_wrong w w.chunks (by unfold big;omega) hw.chunks
 have h2:=risingC_api w.chunks (by omega)
 have h3:=risingP_api w.players (by omega)
 have h4:=has_badP w w.players (by unfold big;omega) hw.players
 unfold rightW
 by_cases hH : headW w = true
 ·rw [hH]
  simp only [headW,Bool.and_eq_true,decide_eq_true_eq] at hH
  cases hA : w.chunks.any (wrongC w.size)
  all_goals
   rw [hA] at h1
   cases hB : risingB orderI w.chunks
   all_goals
    rw [hB] at h2
    cases hC : risingB idI w.players
    all_goals
     rw [hC] at h3
     cases hD : w.players.any (badP w.size)
     all_goals
      rw [hD] at h4
      refine aF Tryz.func19 49 ?_
      conv=>whnf
      repeat' (first|exact trivial|((first|refine kL ?_|(refine ⟨fun hb=>?_,fun hb=>?_⟩<;>(try simp only [nrm] at hb)<;>try exact kZ hb)|refine kE h1 [(0,2)] rfl ?_|refine kF h1 [(0,2)] rfl ?_|refine kE h4 [(0,2)] rfl ?_|refine kF h4 [(0,2)] rfl ?_|refine kV ?_)<;>(conv=>whnf))|refine kY ?_ ?_)
 ·rw [Bool.eq_false_iff.2 hH,Bool.false_and]
  simp only [headW,Bool.and_eq_true,decide_eq_true_eq] at hH
  refine aF Tryz.func19 49 ?_
  exact fD0
open Go Go.RowKit Eng
theorem ins_roomP (l : List (El .player)) (i : Nat) (b : El .player) (hi : i < l.length) : (upon (l.take (i + 1) ++ l.drop i) i [b]).take (l.length + 1) = l.take i ++ b :: l.drop i:=by
 unfold upon
 have h1 : (l.take (i + 1) ++ l.drop i).take i = l.take i:=by
  rw [List.take_append_of_le_length (by simp;omega),List.take_take,Nat.min_eq_left (by omega)]
 have h2 : (l.take (i + 1) ++ l.drop i).drop (i + ([b] : List (El .player)).length) = l.drop i:=List.drop_left' (by simp;omega)
 rw [h1,h2]
 exact List.take_of_length_le (by simp;omega)
theorem ins_len1P (l : List (El .player)) (i : Nat) (hi : i < l.length) : i ≤ (l.take (i + 1) ++ l.drop i).length:=by simp;omega
theorem ins_len2P (l : List (El .player)) (i : Nat) (b : El .player) (hi : i < l.length) : l.length + 1 ≤ (upon (l.take (i + 1) ++ l.drop i) i [b]).length:=by simp [upon];omega
set_option maxHeartbeats 2000000 in
theorem insert_capP (l : List (El .player)) (i : Nat) (b : El .player) (hi : i ≤ l.length) (hl : (l.length + 1) * 88 ≤ 140737488355328) (c : Nat) (hc : l.length ≤ c) : Ev1 Tryz.prog 75 [.own .player 1 0 l.length (some c),i64 i,.own .player 3 0 1 (some 1)] [(1,.row .player l),(3,.row .player [b])] (.own .player 390001 0 (l.length + 1) none) [(390001,.row .player (l.take i ++ b :: l.drop i))]:=by
 refine eF Tryz.func75 92 ?_
 conv=>whnf
 have e1 : ((i : Int) - 0).toNat = i:=by omega
 have e2 : ((l.length : Int) - (i : Int)).toNat = l.length - i:=by omega
 have e4 : ((l.length : Int) + 1 - (i : Int)).toNat = l.length + 1 - i:=by omega
 have e3 : List.take (l.length - i) (l.drop i) = l.drop i:=List.take_of_length_le (by simp)
 have e5 : ((i : Int) + 1).toNat = i + 1:=by omega
 have e6 : i + (l.length + 1 - i) = l.length + 1:=by omega
 have e7 : (((l.length + 1 : Nat) : Int) - (i : Int)).toNat = l.length + 1 - i:=by omega
 have e8 : (((l.length + 1 : Nat) : Int) - ((i : Int) + 1)).toNat = l.length - i:=by omega
 have e9 : ((l.length : Int) + 1 - ((i : Int) + 1)).toNat = l.length - i:=by omega
 have ea : ((l.length : Int) + 1).toNat = l.length + 1:=by omega
 have eb : min 1 (l.length + 1 - i) = 1:=by omega
 have ec : ((l.length : Int) + 1 - 0).toNat = l.length + 1:=by omega
 by_cases hcap : c < l.length + 1
 ·repeat' (first|exact trivial|((first|(refine ⟨fun hb=>?_,fun hb=>?_⟩<;>(try simp only [nrm] at hb)<;>try exact kZ hb)|refine kV ?_)<;>(conv=>whnf))|refine kY ?_ ?_)
  ·obtain rfl : i = l.length:=by omega
   simp only [List.take_length,List.drop_length]
   exact List.take_of_length_le (by simp)
  all_goals simp only [e1,e2,e3,e4,Int.natCast_one,e5,e6,e7,e8,e9,ea,eb,ec,Int.toNat_natCast,Int.toNat_zero,Nat.add_zero,Nat.zero_add,List.drop_zero,List.take_succ_cons,List.take_zero,List.length_cons,List.length_nil,Nat.min_self,List.length_drop]
  ·simp [upon];omega
  ·simp [upon];omega
  ·generalize hR : List.replicate (l.length + 1 - i) (dflt Ty.player) = R
   have hRl : R.length = l.length + 1 - i:=by rw [← hR,List.length_replicate]
   have h1 : l.length + 1 = (i + 1) + (l.drop i).length:=by simp;omega
   rw [h1,upon_part _ _ _ (by simp [upon];omega)]
   have h2:=upon_part (l.take i ++ R) [b] i (by simp;omega)
   rw [List.length_singleton] at h2
   rw [h2,List.take_left' (by simp;omega)]
   simp
 ·have ed : min (l.length + 1 - i) (l.length - i) = l.length - i:=by omega
  have hX : upon l (i + 1) (l.drop i) = l.take (i + 1) ++ l.drop i:=by
   unfold upon
   rw [show l.drop (i + 1 + (l.drop i).length) = [] from List.drop_eq_nil_of_le (by simp;omega),List.append_nil]
  repeat' (first|exact trivial|((first|(refine ⟨fun hb=>?_,fun hb=>?_⟩<;>(try simp only [nrm] at hb)<;>try exact kZ hb)|refine kV ?_)<;>(conv=>whnf))|refine kY ?_ ?_)
  ·obtain rfl : i = l.length:=by omega
   simp only [List.take_length,List.drop_length]
   rw [← List.append_assoc,Nat.zero_add,List.take_length]
   have hlb : l.length + 1 = (l ++ [b]).length:=by rw [List.length_append];rfl
   exact List.take_left' hlb.symm
  all_goals simp only [e1,e2,e3,e4,Int.natCast_one,e5,e6,e7,e8,e9,ea,eb,ec,ed,Int.toNat_natCast,Int.toNat_zero,Nat.add_zero,Nat.zero_add,List.drop_zero,List.take_succ_cons,List.take_zero,List.length_cons,List.length_nil,Nat.min_self,List.length_drop,hX]
  ·exact ins_len1P l i (by omega)
  ·exact ins_len2P l i b (by omega)
  ·exact ins_roomP l i b (by omega)
theorem insert_evP (l : List (El .player)) (i : Nat) (b : El .player) (hi : i ≤ l.length) (hl : (l.length + 1) * 88 ≤ 140737488355328) : Ev1 Tryz.prog 75 [.own .player 1 0 l.length none,i64 i,.own .player 3 0 1 (some 1)] [(1,.row .player l),(3,.row .player [b])] (.own .player 390001 0 (l.length + 1) none) [(390001,.row .player (l.take i ++ b :: l.drop i))]:=
 Ev1.cap fun c hc=>insert_capP l i b hi hl c hc
theorem insert_evnP (l : List (El .player)) (n : Nat) (i : Nat) (b : El .player) (hn : n = l.length) (hi : i ≤ l.length) (hl : (l.length + 1) * 88 ≤ 140737488355328) : Ev1 Tryz.prog 75 [.own .player 1 0 n none,i64 i,.own .player 3 0 1 (some 1)] [(1,.row .player l),(3,.row .player [b])] (.own .player 390001 0 (n + 1) none) [(390001,.row .player (l.take i ++ b :: l.drop i))]:=by
 subst hn;exact insert_evP l i b hi hl
open Go Go.RowKit Eng
open Go Go.RowKit Eng
theorem wown_api (c : Chunk) (hc : FitC c) : Api Tryz.prog 51 [chunkV c] (chunkV c):=by
 have h1:=hc.cells
 have h2:=hc.heaps
 have h3:=hc.boxes
 refine aF Tryz.func51 35 ?_
 conv=>whnf
 repeat' (first|exact trivial|((first|refine kL ?_|(refine ⟨fun hb=>?_,fun hb=>?_⟩<;>(try simp only [nrm] at hb)<;>try exact kZ hb)|(refine isE 122 ?_;refine kE (clone_items _ (by omega)) [(390001,150001)] rfl ?_)|(refine isD 122 ?_;refine kF (clone_items _ (by omega)) [(390001,150001)] rfl ?_)|(refine isE 123 ?_;refine kE (clone_heaps _ (by omega)) [(390001,150003)] rfl ?_)|(refine isD 123 ?_;refine kF (clone_heaps _ (by omega)) [(390001,150003)] rfl ?_)|(refine isE 124 ?_;refine kE (clone_boxes _ (by omega)) [(390001,150005)] rfl ?_)|(refine isD 124 ?_;refine kF (clone_boxes _ (by omega)) [(390001,150005)] rfl ?_)|refine kV ?_)<;>(conv=>whnf))|refine kY ?_ ?_)
 refine Runs.loopS cfg_ok (σ:=Nat) [1,2,18,19] (fun k=>[.ptr 2 0,.ptr 4 0,i64 c.boxes.length,i64 k]) (fun _=>(2,.box (chunkO c 150001 150003 150005)) :: (4,.box (chunkC ⟨0,0,[],[],[]⟩)) :: chunkR c 150001 150003 150005) (fun k=>k ≤ c.boxes.length) (fun k=>c.boxes.length - k) 0 (by omega) ?_ ?_
 ·exact fD0
 ·intro k hk
  by_cases hlt : k < c.boxes.length
  ·have hbk:=hc.bags _ (elt_mem (t:=.box) hlt)
   conv=>whnf
   repeat' (first|exact trivial|((first|refine kL ?_|(refine ⟨fun hb=>?_,fun hb=>?_⟩<;>(try simp only [nrm] at hb)<;>try exact kZ hb)|(refine isE 125 ?_;refine kA (cloneV_slots (elt .box c.boxes k).bag (by omega)) ?_)|(refine isD 125 ?_;refine kD (cloneV_slots (elt .box c.boxes k).bag (by omega)) ?_)|refine kV ?_)<;>(conv=>whnf))|refine kY ?_ ?_)
   refine .to (k + 1) hlt (by omega) ?_
   conv=>whnf
   repeat' (first|exact trivial|((first|(refine ⟨fun hb=>?_,fun hb=>?_⟩<;>(try simp only [nrm] at hb)<;>try exact kZ hb)|refine kV ?_)<;>(conv=>whnf))|refine kY ?_ ?_)
   all_goals (try simp only [Int.toNat_natCast,Nat.add_zero,List.length_set])
   all_goals (try rw [set_elt_box])
   all_goals exact List.take_length
  ·exact fD0
theorem set_elt {tt : Ty} (l : List (El tt)) (k : Nat) : l.set k (elt tt l k) = l:=by
 by_cases h : k < l.length
 ·have:=elt_get tt l k h
  rw [List.getElem?_eq_getElem h] at this
  rw [← Option.some.inj this];exact List.set_getElem_self h
 ·exact List.set_eq_of_length_le (by omega)
abbrev wldO (w : Wld) (a b : Nat) : List AV:=[i64 w.size,.lit (.int .u64 w.seed),i64 w.tick,.own .chunk a 0 w.chunks.length none,.own .player b 0 w.players.length none]
abbrev wldR (w : Wld) (a b : Nat) : Mem:=[(a,.row .chunk w.chunks),(b,.row .player w.players)]
theorem wcopied_ev (w : Wld) (hw : OkW w) : Ev1 Tryz.prog 68 [wldV w] [] (.agg (wldO w 390001 390003)) (wldR w 390001 390003):=by
 have h1:=hw.nc
 have h2:=hw.np
 refine eF Tryz.func68 45 ?_
 conv=>whnf
 repeat' (first|exact trivial|((first|refine kL ?_|(refine ⟨fun hb=>?_,fun hb=>?_⟩<;>(try simp only [nrm] at hb)<;>try exact kZ hb)|(refine isE 140 ?_;refine kE (clone_chunks _ (by omega)) [(390001,350001)] rfl ?_)|(refine isD 140 ?_;refine kF (clone_chunks _ (by omega)) [(390001,350001)] rfl ?_)|(refine isE 141 ?_;refine kE (clone_players _ (by omega)) [(390001,350003)] rfl ?_)|(refine isD 141 ?_;refine kF (clone_players _ (by omega)) [(390001,350003)] rfl ?_)|refine kV ?_)<;>(conv=>whnf))|refine kY ?_ ?_)
 refine Runs.loopS cfg_ok (σ:=Nat) [1,2,16,17,18] (fun k=>[.ptr 200002 0,.ptr 200004 0,.own .chunk 350001 0 w.chunks.length none,i64 w.chunks.length,i64 k]) (fun _=>(200002,.box (wldO w 350001 350003)) :: (200004,.box (wldC ⟨0,0,0,[],[]⟩)) :: wldR w 350001 350003) (fun k=>k ≤ w.chunks.length) (fun k=>w.chunks.length - k) 0 (by omega) ?_ ?_
 ·conv=>whnf
  repeat' (first|exact trivial|((first|(refine ⟨fun hb=>?_,fun hb=>?_⟩<;>(try simp only [nrm] at hb)<;>try exact kZ hb)|refine kV ?_)<;>(conv=>whnf))|refine kY ?_ ?_)
  all_goals first|exact List.take_length|exact (congrArg (List.take _) (set_elt (tt:=.chunk) _ _)).trans List.take_length|exact (congrArg (List.take _) (set_elt (tt:=.player) _ _)).trans List.take_length|(simp;done)|trace_state
 ·intro k hk
  by_cases hlt : k < w.chunks.length
  ·have hf:=hw.fit _ (elt_mem (t:=.chunk) hlt)
   conv=>whnf
   repeat' (first|exact trivial|((first|refine kL ?_|(refine ⟨fun hb=>?_,fun hb=>?_⟩<;>(try simp only [nrm] at hb)<;>try exact kZ hb)|(refine isE 51 ?_;refine kA (wown_api (elt .chunk w.chunks k) hf) ?_)|(refine isD 51 ?_;refine kD (wown_api (elt .chunk w.chunks k) hf) ?_)|refine kV ?_)<;>(conv=>whnf))|refine kY ?_ ?_)
   refine .to (k + 1) hlt (by omega) ?_
   conv=>whnf
   repeat' (first|exact trivial|((first|(refine ⟨fun hb=>?_,fun hb=>?_⟩<;>(try simp only [nrm] at hb)<;>try exact kZ hb)|refine kV ?_)<;>(conv=>whnf))|refine kY ?_ ?_)
   all_goals first|exact List.take_length|exact (congrArg (List.take _) (set_elt (tt:=.chunk) _ _)).trans List.take_length|exact (congrArg (List.take _) (set_elt (tt:=.player) _ _)).trans List.take_length|(simp;done)|trace_state
  ·obtain rfl : k = w.chunks.length:=by omega
   conv=>whnf
   repeat' (first|exact trivial|((first|(refine ⟨fun hb=>?_,fun hb=>?_⟩<;>(try simp only [nrm] at hb)<;>try exact kZ hb)|refine kV ?_)<;>(conv=>whnf))|refine kY ?_ ?_)
   refine Runs.loopS cfg_ok (σ:=Nat) [1,2,31,32,33] (fun k=>[.ptr 200002 0,.ptr 200004 0,.own .player 350003 0 w.players.length none,i64 w.players.length,i64 k]) (fun _=>(200002,.box (wldO w 350001 350003)) :: (200004,.box (wldC ⟨0,0,0,[],[]⟩)) :: wldR w 350001 350003) (fun k=>k ≤ w.players.length) (fun k=>w.players.length - k) 0 (by omega) ?_ ?_
   ·conv=>whnf
    repeat' (first|exact trivial|((first|(refine ⟨fun hb=>?_,fun hb=>?_⟩<;>(try simp only [nrm] at hb)<;>try exact kZ hb)|refine kV ?_)<;>(conv=>whnf))|refine kY ?_ ?_)
    all_goals first|exact List.take_length|exact (congrArg (List.take _) (set_elt (tt:=.chunk) _ _)).trans List.take_length|exact (congrArg (List.take _) (set_elt (tt:=.player) _ _)).trans List.take_length|(simp;done)|trace_state
   ·intro k hk
    by_cases hlt : k < w.players.length
    ·have hf:=hw.players _ (elt_mem (t:=.player) hlt)
     conv=>whnf
     repeat' (first|exact trivial|((first|refine kL ?_|(refine ⟨fun hb=>?_,fun hb=>?_⟩<;>(try simp only [nrm] at hb)<;>try exact kZ hb)|(refine isE 74 ?_;refine kA (alone_api (elt .player w.players k) hf) ?_)|(refine isD 74 ?_;refine kD (alone_api (elt .player w.players k) hf) ?_)|refine kV ?_)<;>(conv=>whnf))|refine kY ?_ ?_)
     refine .to (k + 1) hlt (by omega) ?_
     conv=>whnf
     repeat' (first|exact trivial|((first|(refine ⟨fun hb=>?_,fun hb=>?_⟩<;>(try simp only [nrm] at hb)<;>try exact kZ hb)|refine kV ?_)<;>(conv=>whnf))|refine kY ?_ ?_)
     all_goals first|exact List.take_length|exact (congrArg (List.take _) (set_elt (tt:=.chunk) _ _)).trans List.take_length|exact (congrArg (List.take _) (set_elt (tt:=.player) _ _)).trans List.take_length|(simp;done)|trace_state
    ·obtain rfl : k = w.players.length:=by omega
     conv=>whnf
     repeat' (first|exact trivial|((first|(refine ⟨fun hb=>?_,fun hb=>?_⟩<;>(try simp only [nrm] at hb)<;>try exact kZ hb)|refine kV ?_)<;>(conv=>whnf))|refine kY ?_ ?_)
     all_goals first|exact List.take_length|exact (congrArg (List.take _) (set_elt (tt:=.chunk) _ _)).trans List.take_length|exact (congrArg (List.take _) (set_elt (tt:=.player) _ _)).trans List.take_length|(simp;done)|trace_state
def bsGo (lt : Nat → Bool) (i j : Nat) : Nat:=if i < j then (if lt ((i + j) / 2) = true then bsGo lt ((i + j) / 2 + 1) j else bsGo lt i ((i + j) / 2)) else i
termination_by j - i
decreasing_by all_goals omega
theorem bsGo_lo {lt : Nat → Bool} {i j : Nat} (h : i < j) (h2 : lt ((i + j) / 2) = true) : bsGo lt i j = bsGo lt ((i + j) / 2 + 1) j:=by rw [bsGo,if_pos h,if_pos h2]
theorem bsGo_hi {lt : Nat → Bool} {i j : Nat} (h : i < j) (h2 : lt ((i + j) / 2) = false) : bsGo lt i j = bsGo lt i ((i + j) / 2):=by rw [bsGo,if_pos h,if_neg (by rw [h2];simp)]
theorem bsGo_end {lt : Nat → Bool} {i j : Nat} (h : ¬ i < j) : bsGo lt i j = i:=by rw [bsGo,if_neg h]
theorem bsGo_at {lt : Nat → Bool} {b m : Nat} (hlt : ∀ k < m,lt k = decide (k < b)) : ∀ (n i j : Nat),j - i ≤ n → i ≤ b → b ≤ j → j ≤ m → bsGo lt i j = b
 | 0,i,j,h,hi,hj,hm=>by rw [bsGo_end (by omega)];omega
 | n + 1,i,j,h,hi,hj,hm=>by
  by_cases hij : i < j
  ·have hk:=hlt ((i + j) / 2) (by omega)
   by_cases hb : (i + j) / 2 < b
   ·rw [decide_eq_true hb] at hk
    rw [bsGo_lo hij hk];exact bsGo_at hlt n _ _ (by omega) (by omega) hj hm
   ·rw [decide_eq_false hb] at hk
    rw [bsGo_hi hij hk];exact bsGo_at hlt n _ _ (by omega) hi (by omega) (by omega)
  ·rw [bsGo_end hij];omega
abbrev pid : Player → Int:=Player.id
def bsP (l : List Player) (t : Int) : Nat:=bsGo (fun k=>decide ((elt .player l k).id < t)) 0 l.length
def fdP (l : List Player) (t : Int) : Bool:=decide (bsP l t < l.length) && ((elt .player l (bsP l t)).id == t)
theorem bsP_rises {l : List Player} (h : risesK pid l) (t : Int) : bsP l t = lbK pid t l ∧ fdP l t = (getK pid l t).isSome:=by
 have hat:=lbK_at t h
 have hle:=lbK_le pid t l
 have e1 : bsP l t = lbK pid t l:=by
  refine bsGo_at (m:=l.length) (fun k hk=>?_) _ 0 l.length (Nat.le_refl _) (by omega) hle (Nat.le_refl _)
  have hke:=elt_get .player l k hk
  -- the boundary
  have hb1 : ∀ {l : List Player} {k : Nat} {a : Player},l[k]? = some a → k < lbK pid t l → a.id < t:=by
   intro l
   induction l with
   | nil=>intro k a ha;simp at ha
   | cons b r ih =>
    intro k a ha hk
    simp only [lbK] at hk
    split at hk
    ·cases k with
     | zero=>simp at ha;subst ha;assumption
     | succ k=>simp at ha;exact ih ha (by omega)
    ·omega
  by_cases hkb : k < lbK pid t l
  ·rw [decide_eq_true hkb,decide_eq_true (hb1 hke hkb)]
  ·rw [decide_eq_false hkb,decide_eq_false]
   have hlt' : lbK pid t l < l.length:=by omega
   have hbe:=elt_get .player l _ hlt'
   have hge : t ≤ (elt .player l (lbK pid t l)).id:=by
    have : ∀ {l : List Player} {b : Player},l[lbK pid t l]? = some b → t ≤ b.id:=by
     intro l
     induction l with
     | nil=>intro b hb;simp at hb
     | cons c r ih =>
      intro b hb
      simp only [lbK] at hb
      split at hb
      ·simp at hb;exact ih hb
      ·rename_i hc;simp at hb;subst hb;simp only [pid] at hc;omega
    exact this hbe
   rcases Nat.eq_or_lt_of_le (Nat.le_of_not_lt hkb) with he|hl
   ·rw [← he];exact Int.not_lt.2 hge
   ·have h3 : (elt .player l (lbK pid t l)).id < (elt .player l k).id:=risesK_lt h hl hbe hke
    exact Int.not_lt.2 (Int.le_trans hge (Int.le_of_lt h3))
 refine ⟨e1,?_⟩
 unfold fdP
 rw [e1]
 by_cases hlt : lbK pid t l < l.length
 ·have hbe:=elt_get .player l _ hlt
  rw [hbe] at hat
  simp only at hat
  rw [decide_eq_true hlt,Bool.true_and,← hat]
  by_cases he : (elt .player l (lbK pid t l)).id = t
  ·rw [if_pos he];simpa using he
  ·rw [if_neg he];simpa using he
 ·rw [List.getElem?_eq_none (by omega)] at hat
  rw [decide_eq_false hlt,← hat];rfl
theorem seek1_api (p : Player) (t : Int) : Api Tryz.prog 146 [.agg (cells .player p),i64 t] (i64 (cmpI p.id t)):=by
 refine aF Tryz.func146 7 ?_
 conv=>whnf
 repeat' (first|exact trivial|((first|refine kL ?_|(refine ⟨fun hb=>?_,fun hb=>?_⟩<;>(try simp only [nrm] at hb)<;>try exact kZ hb)|(refine isE 135 ?_;refine kA (cmp_api _ _) ?_)|(refine isD 135 ?_;refine kD (cmp_api _ _) ?_)|refine kV ?_)<;>(conv=>whnf))|refine kY ?_ ?_)
theorem bsearchP_api (l : List (El .player)) (t : Int) (hl : l.length ≤ 4000000000000000000) : Api Tryz.prog 145 [.vec .player l,i64 t,.lit (.func (.func 146) #[] #[])] (.tup [i64 (bsP l t),bol (fdP l t)]):=by
 refine aF Tryz.func145 46 ?_
 conv=>whnf
 refine Runs.loopS cfg_ok (σ:=Nat × Nat) [0,1,2,8,9,10] (fun (i,j)=>[.vec .player l,i64 t,.lit (.func (.func 146) #[] #[]),i64 l.length,i64 i,i64 j]) (fun _=>[]) (fun (i,j)=>i ≤ j ∧ j ≤ l.length ∧ bsGo (fun k=>decide ((elt .player l k).id < t)) i j = bsP l t) (fun (i,j)=>j - i) (0,l.length) ⟨by omega,by omega,rfl⟩ ?_ ?_
 ·exact fD0
 ·rintro ⟨i,j⟩ ⟨h1,h2,h3⟩
  conv=>whnf
  repeat' (first|exact trivial|((first|refine kL ?_|(refine ⟨fun hb=>?_,fun hb=>?_⟩<;>(try simp only [nrm] at hb)<;>try exact kZ hb)|(rw [shr1])|(refine isE 146 ?_;refine kA (seek1_api _ _) ?_)|(refine isD 146 ?_;refine kD (seek1_api _ _) ?_)|refine kV ?_)<;>(conv=>whnf))|refine kY ?_ ?_)
  ·rw [cmpI_lt] at hb
   refine .to ((i + j) / 2 + 1,j) ⟨by omega,h2,by rw [← h3,bsGo_lo (i:=i) (j:=j) (by omega) (decide_eq_true hb)]⟩ (by dsimp only;omega) ?_
   exact fD0
  ·rw [cmpI_ge] at hb
   refine .to (i,(i + j) / 2) ⟨by omega,by omega,by rw [← h3,bsGo_hi (i:=i) (j:=j) (by omega) (decide_eq_false (Int.not_lt.2 hb))]⟩ (by dsimp only;omega) ?_
   exact fD0
  all_goals
   obtain rfl : i = j:=by omega
   rw [bsGo_end (by omega)] at h3
   subst h3
  ·rfl
  ·unfold fdP
   rw [decide_eq_true (by omega)];refine congrArg Value.bool ?_;rw [Bool.true_and,Bool.eq_iff_iff,beq_iff_eq,beq_iff_eq];exact cmpI_eq
  ·rfl
  ·unfold fdP
   rw [decide_eq_false (by omega)];rfl
theorem seek_api (w : Wld) (t : Int) (hl : w.players.length ≤ 4000000000000000000) : Api Tryz.prog 73 [wldV w,i64 t] (.tup [i64 (bsP w.players t),bol (fdP w.players t)]):=by
 refine aF Tryz.func73 10 ?_
 conv=>whnf
 repeat' (first|exact trivial|((first|refine kL ?_|(refine ⟨fun hb=>?_,fun hb=>?_⟩<;>(try simp only [nrm] at hb)<;>try exact kZ hb)|(refine isE 145 ?_;refine kA (bsearchP_api w.players t hl) ?_)|(refine isD 145 ?_;refine kD (bsearchP_api w.players t hl) ?_)|refine kV ?_)<;>(conv=>whnf))|refine kY ?_ ?_)
theorem seek_own (w : Wld) (t : Int) (hl : w.players.length ≤ 4000000000000000000) : Ev1 Tryz.prog 73 [.agg (wldO w 1 3),i64 t] (wldR w 1 3) (.tup [i64 (bsP w.players t),bol (fdP w.players t)]) (wldR w 1 3):=by
 refine Api.lend (seek_api w t hl) ?_ rfl
 conv=>whnf
 refine ⟨by omega,?_⟩
 conv=>whnf
 refine ⟨by omega,?_⟩
 conv=>whnf
 simp only [List.drop_zero,List.take_length]
theorem within_own (w : Wld) (x y : Int) : Ev1 Tryz.prog 53 [.agg (wldO w 1 3),i64 x,i64 y] (wldR w 1 3) (bol (withinW w.size x y)) (wldR w 1 3):=by
 refine Api.lend (within_api w x y) ?_ rfl
 conv=>whnf
 refine ⟨by omega,?_⟩
 conv=>whnf
 refine ⟨by omega,?_⟩
 conv=>whnf
 simp only [List.drop_zero,List.take_length]
def withP (w : Wld) (l : List Player) : Wld:={ w with players:=l }
def setW (w : Wld) (p : Player) : Wld × Int:=
 if rightW w = false then (w,113) else if soundB p = false ∨ withinW w.size p.x p.y = false then (w,110)
 else if (getK pid w.players p.id).isSome = true then (withP w (w.players.set (lbK pid p.id w.players) p),0)
 else if 32 ≤ w.players.length then (w,3) else (withP w (w.players.take (lbK pid p.id w.players) ++ p :: w.players.drop (lbK pid p.id w.players)),0)
theorem rightW_players {w : Wld} (h : rightW w = true) : risesK pid w.players ∧ w.players.length ≤ 32 ∧ 1 ≤ w.size ∧ w.size ≤ 16:=by
 simp only [rightW,headW,Bool.and_eq_true,decide_eq_true_eq] at h
 exact ⟨rises_of.1 h.2.2.2.1,by omega,h.1.1,h.1.2.1⟩
theorem set_world (w : Wld) (p : Player) (hw : OkW w) (hp : OkP p) : Api Tryz.prog 24 [wldV w,playerV p] (.tup [wldV (setW w p).1,i64 (setW w p).2]):=by
 have hnc:=hw.nc
 have hnp:=hw.np
 have hrt:=rightW_api w hw
 have hsk:=seek_own w p.id (by omega)
 have hso:=sound_api p hp
 have hwi:=within_api w p.x p.y
 have hwc:=wcopied_ev w hw
 cases hR : rightW w with
 | false =>
  rw [hR] at hrt
  have hs : setW w p = (w,113):=by unfold setW;rw [if_pos hR]
  rw [hs]
  refine aF Tryz.func24 60 ?_
  conv=>whnf
  repeat' (first|exact trivial|((first|refine kL ?_|(refine ⟨fun hb=>?_,fun hb=>?_⟩<;>(try simp only [nrm] at hb)<;>try exact kZ hb)|refine kE hwc [(390001,150001),(390003,150003)] rfl ?_|refine kF hwc [(390001,150001),(390003,150003)] rfl ?_|refine kE hsk [(1,150001),(3,150003)] rfl ?_|refine kF hsk [(1,150001),(3,150003)] rfl ?_|refine kV ?_)<;>(conv=>whnf))|refine kY ?_ ?_)
  all_goals first|(simp;done)|(simp [withP];done)|(rw [List.drop_zero];refine take_all ?_;simp;done)|(rw [List.drop_zero];refine take_all ?_;simp;omega)
 | true =>
  rw [hR] at hrt
  obtain ⟨hri,h32,hs1,hs2⟩:=rightW_players hR
  obtain ⟨e1,e2⟩:=bsP_rises hri p.id
  rw [e1,e2] at hsk
  cases hS : soundB p with
  | false =>
   rw [hS] at hso
   have hs : setW w p = (w,110):=by unfold setW;rw [if_neg (by rw [hR];simp),if_pos (.inl hS)]
   rw [hs]
   refine aF Tryz.func24 60 ?_
   conv=>whnf
   repeat' (first|exact trivial|((first|refine kL ?_|(refine ⟨fun hb=>?_,fun hb=>?_⟩<;>(try simp only [nrm] at hb)<;>try exact kZ hb)|refine kE hwc [(390001,150001),(390003,150003)] rfl ?_|refine kF hwc [(390001,150001),(390003,150003)] rfl ?_|refine kE hsk [(1,150001),(3,150003)] rfl ?_|refine kF hsk [(1,150001),(3,150003)] rfl ?_|refine kV ?_)<;>(conv=>whnf))|refine kY ?_ ?_)
   all_goals first|(simp;done)|(simp [withP];done)|(rw [List.drop_zero];refine take_all ?_;simp;done)|(rw [List.drop_zero];refine take_all ?_;simp;omega)
  | true =>
   rw [hS] at hso
   cases hI : withinW w.size p.x p.y with
   | false =>
    rw [hI] at hwi
    have hs : setW w p = (w,110):=by unfold setW;rw [if_neg (by rw [hR];simp),if_pos (.inr hI)]
    rw [hs]
    have hwl:=within_own w p.x p.y
    rw [hI] at hwl
    refine aF Tryz.func24 60 ?_
    conv=>whnf
    repeat' (first|exact trivial|((first|refine kL ?_|(refine ⟨fun hb=>?_,fun hb=>?_⟩<;>(try simp only [nrm] at hb)<;>try exact kZ hb)|refine kE hwc [(390001,150001),(390003,150003)] rfl ?_|refine kF hwc [(390001,150001),(390003,150003)] rfl ?_|refine kE hsk [(1,150001),(3,150003)] rfl ?_|refine kF hsk [(1,150001),(3,150003)] rfl ?_|refine kE hwl [(1,150001),(3,150003)] rfl ?_|refine kF hwl [(1,150001),(3,150003)] rfl ?_|refine kV ?_)<;>(conv=>whnf))|refine kY ?_ ?_)
    all_goals first|(simp;done)|(simp [withP];done)|(rw [List.drop_zero];refine take_all ?_;simp;done)|(rw [List.drop_zero];refine take_all ?_;simp;omega)
   | true =>
    have hwl:=within_own w p.x p.y
    rw [hI] at hwl
    have hal:=alone_api p hp
    have hle:=lbK_le pid p.id w.players
    cases hT : (getK pid w.players p.id).isSome with
    | true =>
     rw [hT] at hsk
     have hs : setW w p = (withP w (w.players.set (lbK pid p.id w.players) p),0):=by unfold setW;rw [if_neg (by rw [hR];simp),if_neg (by rw [hS,hI];simp),if_pos hT]
     rw [hs]
     have hlt : lbK pid p.id w.players < w.players.length:=by
      obtain ⟨b,hb⟩:=Option.isSome_iff_exists.1 hT
      exact (lbK_lt hri hb).1
     generalize lbK pid p.id w.players = at_ at *
     refine aF Tryz.func24 60 ?_
     conv=>whnf
     repeat' (first|exact trivial|((first|refine kL ?_|(refine ⟨fun hb=>?_,fun hb=>?_⟩<;>(try simp only [nrm] at hb)<;>try exact kZ hb)|refine kE hwc [(390001,150001),(390003,150003)] rfl ?_|refine kF hwc [(390001,150001),(390003,150003)] rfl ?_|refine kE hsk [(1,150001),(3,150003)] rfl ?_|refine kF hsk [(1,150001),(3,150003)] rfl ?_|refine kE hwl [(1,150001),(3,150003)] rfl ?_|refine kF hwl [(1,150001),(3,150003)] rfl ?_|refine kV ?_)<;>(conv=>whnf))|refine kY ?_ ?_)
     all_goals first|(simp;done)|(simp [withP];done)|(rw [List.drop_zero];refine take_all ?_;simp;done)|(rw [List.drop_zero];refine take_all ?_;simp;omega)
    | false =>
     rw [hT] at hsk
     by_cases h32' : 32 ≤ w.players.length
     ·have hs : setW w p = (w,3):=by unfold setW;rw [if_neg (by rw [hR];simp),if_neg (by rw [hS,hI];simp),if_neg (by rw [hT];simp),if_pos h32']
      rw [hs]
      generalize lbK pid p.id w.players = at_ at *
      refine aF Tryz.func24 60 ?_
      conv=>whnf
      repeat' (first|exact trivial|((first|refine kL ?_|(refine ⟨fun hb=>?_,fun hb=>?_⟩<;>(try simp only [nrm] at hb)<;>try exact kZ hb)|refine kE hwc [(390001,150001),(390003,150003)] rfl ?_|refine kF hwc [(390001,150001),(390003,150003)] rfl ?_|refine kE hsk [(1,150001),(3,150003)] rfl ?_|refine kF hsk [(1,150001),(3,150003)] rfl ?_|refine kE hwl [(1,150001),(3,150003)] rfl ?_|refine kF hwl [(1,150001),(3,150003)] rfl ?_|refine kV ?_)<;>(conv=>whnf))|refine kY ?_ ?_)
      all_goals first|(simp;done)|(simp [withP];done)|(rw [List.drop_zero];refine take_all ?_;simp;done)|(rw [List.drop_zero];refine take_all ?_;simp;omega)
     ·have hs : setW w p = (withP w (w.players.take (lbK pid p.id w.players) ++ p :: w.players.drop (lbK pid p.id w.players)),0):=by unfold setW;rw [if_neg (by rw [hR];simp),if_neg (by rw [hS,hI];simp),if_neg (by rw [hT];simp),if_neg h32']
      rw [hs]
      generalize lbK pid p.id w.players = at_ at *
      refine aF Tryz.func24 60 ?_
      conv=>whnf
      repeat' (first|exact trivial|((first|refine kL ?_|(refine ⟨fun hb=>?_,fun hb=>?_⟩<;>(try simp only [nrm] at hb)<;>try exact kZ hb)|refine kE hwc [(390001,150001),(390003,150003)] rfl ?_|refine kF hwc [(390001,150001),(390003,150003)] rfl ?_|refine kE hsk [(1,150001),(3,150003)] rfl ?_|refine kF hsk [(1,150001),(3,150003)] rfl ?_|refine kE hwl [(1,150001),(3,150003)] rfl ?_|refine kF hwl [(1,150001),(3,150003)] rfl ?_|(refine isE 75 ?_;refine kE (insert_evnP w.players _ at_ p rfl hle (by omega)) [(1,150003),(3,117),(390001,150007)] rfl ?_)|(refine isD 75 ?_;refine kF (insert_evnP w.players _ at_ p rfl hle (by omega)) [(1,150003),(3,117),(390001,150007)] rfl ?_)|refine kV ?_)<;>(conv=>whnf))|refine kY ?_ ?_)
      all_goals first|(simp;done)|(simp [withP];done)|(rw [List.drop_zero];refine take_all ?_;simp;done)|(rw [List.drop_zero];refine take_all ?_;simp;omega)
open Go Go.RowKit Eng
theorem FitPlayer.okP {p : Player} (h : FitPlayer p) : OkP p:=⟨fun s hs=>(h.bag s hs).1,fun s hs=>(h.offer s hs).1,h.nb,h.no⟩
open Go Go.RowKit Eng
theorem FitChunk.okC {c : Chunk} (h : FitChunk c) : OkC c:=
 ⟨h.cells,fun x hx=>(h.heaps x hx).2.1,fun b hb=>⟨fun s hs=>((h.boxes b hb).2.1 s hs).1,by have:=(h.boxes b hb).2.2;unfold big;omega⟩,by have:=h.nc;unfold big;omega,by have:=h.nh;unfold big;omega,by have:=h.nb;unfold big;omega⟩
theorem rd_chunks : Reads Tryz.prog 23 1 (fun l : List (El .chunk)=>[.vec .chunk l]) (fun l=>(∀ c ∈ l,FitChunk c) ∧ l.length * 88 ≤ 140737488351232):=reads_slice .chunk (by kernel_rfl) (by kernel_rfl) (by kernel_rfl) rd_chunk
open Go Go.RowKit Eng
def LesL (cs cs' : List AV) : Prop:=cs.length = cs'.length ∧ ∀ (i : Nat) c c',cs[i]? = some c → cs'[i]? = some c' → Le c c'
theorem LesL.nil : LesL [] []:=⟨rfl,by simp⟩
theorem LesL.cons {c c' : AV} {cs cs' : List AV} (h : Le c c') (hs : LesL cs cs') : LesL (c :: cs) (c' :: cs'):=by
 refine ⟨by simp [hs.1],fun i x x' h1 h2=>?_⟩
 cases i with
 | zero=>simp at h1 h2;subst h1;subst h2;exact h
 | succ i=>simp at h1 h2;exact hs.2 i x x' h1 h2
theorem Le.agg {cs cs' : List AV} (h : LesL cs cs') : Le (.agg cs) (.agg cs'):=fun w g lim x hr=>by
 cases hr with
 | agg _ xs hl hx =>
  refine .agg _ xs (by rw [← h.1];exact hl) fun i c' x hc hxx=>?_
  have hi : i < cs.length:=by rw [h.1];exact (List.getElem?_eq_some_iff.1 hc).1
  exact h.2 i _ c' (List.getElem?_eq_getElem hi) hc w g lim x (hx i _ x (List.getElem?_eq_getElem hi) hxx)
theorem api_weak {P : Program} {fid : FuncId} {args args' : List AV} {v : AV} (h : Api P fid args v) (hl : LesL args' args) : Api P fid args' v:=by
 intro w g vs hm ha
 refine h w g vs hm ⟨by rw [← hl.1];exact ha.1,fun i c x hc hx=>?_⟩
 have hi : i < args'.length:=by rw [hl.1];exact (List.getElem?_eq_some_iff.1 hc).1
 exact hl.2 i _ c (List.getElem?_eq_getElem hi) hc w g 0 x (ha.2 i _ x (List.getElem?_eq_getElem hi) hx)
def mayB (p : Player) : Bool:=soundB p && withinW 16 p.x p.y
end Go.Proofs.YtaecchphjploaaaGreat
