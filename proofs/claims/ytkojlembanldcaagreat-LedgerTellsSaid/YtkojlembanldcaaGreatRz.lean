/- Varints and bytes; references of bags, worlds, trade. -/
import Derived.Test.YtkojlembanldcaaGreatGh
set_option linter.unusedSimpArgs false
set_option linter.unusedVariables false
set_option maxRecDepth 100000
set_option maxHeartbeats 16000000
namespace Go.Proofs.YtkojlembanldcaaGreat
open Go Go.RowKit Eng
def gw : Nat → Nat → List Int
 | 0,n=>[(n : Int)]
 | f + 1,n=>if n < 128 then [(n : Int)] else ((n % 128 + 128 : Nat) : Int) :: gw f (n / 128)
def bF (n : Nat) : List Int:=gw 9 n
theorem mX (f n : Nat) : (gw f n).length ≤ f + 1:=by
 induction f generalizing n with
 | zero=>simp [gw]
 | succ f ih=>simp only [gw];split<;>simp;have:=ih (n / 128);omega
def eqL (a b : List Int) : Bool:=decide (a = b)
def jV (l : List Int) : Prop:=∀ i ∈ l,0 ≤ i ∧ i ≤ 255
theorem H6 {a b : Int} (ha : 0 ≤ a ∧ a ≤ 255) (hb : 0 ≤ b ∧ b ≤ 255) (h : UInt8.ofNat a.toNat = UInt8.ofNat b.toNat) : a = b:=by
 have:=congrArg UInt8.toNat h
 simp only [UInt8.toNat_ofNat'] at this
 omega
theorem wR : ∀ {a b : List Int},jV a → jV b → (a.map fun n=>UInt8.ofNat n.toNat) = (b.map fun n=>UInt8.ofNat n.toNat) → a = b
 | [],[],_,_,_=>rfl
 | [],_ :: _,_,_,h=>by simp at h
 | _ :: _,[],_,_,h=>by simp at h
 | x :: a,y :: b,ha,hb,h=>by
  simp only [List.map_cons,List.cons.injEq] at h
  rw [H6 (ha x (by simp)) (hb y (by simp)) h.1,wR (fun i hi=>ha i (by simp [hi])) (fun i hi=>hb i (by simp [hi])) h.2]
theorem DX (bs : ByteArray) : ∀ (k i : Nat) (r : List UInt8),i + k = bs.size → ByteArray.toList.loop bs i r = r.reverse ++ bs.data.toList.drop i:=by
 have hs : bs.size = bs.data.toList.length:=by rw [Array.length_toList];rfl
 intro k
 induction k with
 | zero =>
  intro i r h
  unfold ByteArray.toList.loop
  rw [if_neg (by omega),List.drop_of_length_le (by omega),List.append_nil]
 | succ k ih =>
  intro i r h
  unfold ByteArray.toList.loop
  rw [if_pos (by omega),ih (i + 1) _ (by omega)]
  have hlt : i < bs.data.toList.length:=by omega
  have hg : bs.get! i = bs.data.toList[i]:=by
   show bs.data[i]! = _
   rw [getElem!_pos bs.data i (by rw [← Array.length_toList];exact hlt)];simp
  rw [List.drop_eq_getElem_cons hlt,hg]
  simp only [List.reverse_cons,List.append_assoc,List.singleton_append]
theorem qp (bs : ByteArray) : bs.toList = bs.data.toList:=by
 unfold ByteArray.toList
 rw [DX bs bs.size 0 [] (by omega)];simp
theorem H7 {a b : List Int} (ha : jV a) (hb : jV b) : ((strOfNums a).toList == (strOfNums b).toList) = eqL a b:=by
 unfold eqL
 rw [Bool.eq_iff_iff,beq_iff_eq,decide_eq_true_eq]
 constructor
 ·intro h
  have h2 : (strOfNums a).data.toList = (strOfNums b).data.toList:=by
   rw [← qp,← qp,h]
  exact wR ha hb h2
 ·rintro rfl;rfl
open Go Go.RowKit Eng
def okN (z : Int) : Prop:=0 ≤ z ∧ z < 9223372036854775808
theorem okN.le {z : Int} (h : okN z) : z ≤ 18446744073709551615:=by have:=h.2;omega
def jw (ns : List Int) : List Int:=ns.flatMap fun z=>bF z.toNat
open Go Go.RowKit Eng
theorem kT : ∀ (l : List Int) (k : Nat) (bs : List Box),bT l k bs = some [] → bs.length ≤ l.length ∧ ∀ b ∈ bs,b.bag.length = 6 ∧ an b.bag = true
 | [],k,bs,h=>by simp [bT] at h;subst h;simp
 | i :: r,k,bs,h=>by
  simp only [bT] at h
  split at h
  ·split at h
   ·cases bs with
    | nil=>cases h
    | cons b bs =>
     simp only at h
     split at h
     ·rename_i hb
      obtain ⟨h1,h2⟩:=kT r (k + 1) bs h
      have hbk : b.bag.length = 6 ∧ an b.bag = true:=by simp only [gn,Bool.and_eq_true,beq_iff_eq,decide_eq_true_eq] at hb;exact ⟨by omega,hb.2.2⟩
      refine ⟨by simp only [List.length_cons];omega,fun x hx=>?_⟩
      rcases List.mem_cons.1 hx with rfl|hx
      ·exact hbk
      ·exact h2 x hx
     ·cases h
   ·obtain ⟨h1,h2⟩:=kT r (k + 1) bs h
    exact ⟨by simp only [List.length_cons];omega,h2⟩
  ·cases h
theorem wS (i : Int) : ak i ≤ 16:=by unfold ak;(repeat' split)<;>omega
theorem z_ {s : aa} (h : bC s = false) : 0 ≤ s.n ∧ s.n ≤ 16:=by
 have:=wS s.item
 simp only [bC,Bool.and_eq_false_iff,Bool.or_eq_false_iff,Bool.not_eq_false',Bool.and_eq_true,beq_iff_eq,decide_eq_false_iff_not] at h
 omega
theorem H8 {h : du} (hb : cw h = false) : 0 ≤ h.cell ∧ h.cell < 64 ∧ 1 ≤ h.slot.n ∧ h.slot.n ≤ 16:=by
 have:=wS h.slot.item
 simp only [cw,ei,Bool.or_eq_false_iff,Bool.not_eq_false',Bool.and_eq_true,decide_eq_true_eq] at hb
 omega
theorem qq {α : Type} {p : α → Bool} {l : List α} (h : l.any p = false) {a : α} (ha : a ∈ l) : p a = false:=by
 cases hp : p a with
 | false=>rfl
 | true=>rw [List.any_eq_true.2 ⟨a,ha,hp⟩] at h;cases h
def o8 (h : du) : List Int:=jw [h.cell,h.slot.item,h.slot.n]
def uw (s : aa) : List Int:=jw [s.item,s.n]
def vq (b : Box) : List Int:=b.bag.flatMap uw
def fZ (c : Chunk) : List Int:=((jw [c.x,c.y] ++ c.cells) ++ jw [(c.heaps.length : Int)]) ++ c.heaps.flatMap o8 ++ c.boxes.flatMap vq
theorem H9 (P : List Int) (l : List Int) (k : Nat) (h : k < l.length) : List.take (P.length + k + 1) (List.take (P.length + k) (P ++ l.take k) ++ [elt .u8 l k]) = P ++ l.take (k + 1):=by
 have h1 : (P ++ l.take k).length = P.length + k:=by simp;omega
 rw [← h1,List.take_length,List.take_of_length_le (by simp only [List.length_append,List.length_cons,List.length_nil];omega)]
 have:=ar .u8 l k h
 rw [List.take_add_one,this]
 simp
theorem mw {t : Ty} {l : List (El t)} (f : El t → List Int) {k : Nat} (h : k < l.length) : (l.take (k + 1)).flatMap f = (l.take k).flatMap f ++ f (elt t l k):=by
 have:=ar t l k h
 rw [List.take_add_one,this]
 simp
open Go Go.RowKit Eng
def cH (may : aa → Bool) (i size : Int) : List aa → Int → List aa × Int
 | [],n=>([],n)
 | s :: r,n=>if may s = true ∧ 0 < min (size - s.n) n then (⟨i,s.n + min (size - s.n) n⟩ :: (cH may i size r (n - min (size - s.n) n)).1,(cH may i size r (n - min (size - s.n) n)).2)
  else (s :: (cH may i size r n).1,(cH may i size r n).2)
theorem Aa {may : aa → Bool} {i size : Int} : ∀ (l : List aa) (p : List aa × Int),l.foldl (cZ may i size) p = (p.1 ++ (cH may i size l p.2).1,(cH may i size l p.2).2)
 | [],p=>by simp [cH]
 | s :: r,p=>by
  rw [List.foldl_cons,Aa r]
  unfold cZ
  by_cases h : may s = true ∧ 0 < min (size - s.n) p.2
  ·rw [if_pos h];simp only [cH,if_pos h];simp
  ·rw [if_neg h];simp only [cH,if_neg h];simp
theorem Ci {may : aa → Bool} {i size n : Int} {l : List aa} : bP may i size l n = cH may i size l n:=by
 unfold bP;rw [Aa];simp
theorem o9 {may : aa → Bool} {i size : Int} : ∀ l : List aa,cH may i size l 0 = (l,0)
 | []=>rfl
 | s :: r=>by simp only [cH];rw [if_neg (by omega),o9 r]
def fa (i : Int) : List aa → Option (List aa)
 | []=>none
 | s :: r=>if s.item = i ∧ s.n < ak i then some (⟨s.item,s.n + 1⟩ :: r) else (fa i r).map (s :: ·)
def ir (i : Int) : List aa → Option (List aa)
 | []=>none
 | s :: r=>if s.n = 0 then some (⟨i,1⟩ :: r) else (ir i r).map (s :: ·)
def fb (l : List aa) (i : Int) : Option (List aa):=match fa i l with|some x=>some x|none=>ir i l
theorem kH {i n : Int} : ∀ {l : List aa},fa i l = none → cH (bO i) i (ak i) l n = (l,n)
 | [],_=>rfl
 | s :: r,h=>by
  simp only [fa] at h
  split at h
  ·cases h
  ·rename_i hc
   simp only [cH]
   rw [if_neg (fun hm=>hc ⟨by simpa [bO] using hm.1,by omega⟩),kH (l:=r) (by simpa using h)]
theorem wT {i n : Int} (hn : 1 ≤ n) : ∀ {l l' : List aa},fa i l = some l' → cH (bO i) i (ak i) l n = cH (bO i) i (ak i) l' (n - 1)
 | [],l',h=>by simp [fa] at h
 | s :: r,l',h=>by
  simp only [fa] at h
  split at h
  ·rename_i hc
   cases h
   have hm : bO i s = true:=by simp [bO,hc.1]
   have hm2 : bO i ⟨s.item,s.n + 1⟩ = true:=by simp [bO,hc.1]
   simp only [cH]
   rw [if_pos ⟨hm,by omega⟩]
   by_cases h1 : 0 < min (ak i - (s.n + 1)) (n - 1)
   ·rw [if_pos ⟨hm2,h1⟩]
    rw [show s.n + 1 + min (ak i - (s.n + 1)) (n - 1) = s.n + min (ak i - s.n) n by omega,show n - 1 - min (ak i - (s.n + 1)) (n - 1) = n - min (ak i - s.n) n by omega]
   ·rw [if_neg (fun hx=>h1 hx.2)]
    rw [show min (ak i - s.n) n = 1 by omega,hc.1]
  ·rename_i hc
   cases hr : fa i r with
   | none=>rw [hr] at h;cases h
   | some r' =>
    rw [hr] at h
    cases h
    simp only [cH]
    have hno : ∀ m : Int,¬ (bO i s = true ∧ 0 < min (ak i - s.n) m):=fun m hm=>hc ⟨by simpa [bO] using hm.1,by omega⟩
    rw [if_neg (hno _),if_neg (hno _),wT hn hr]
theorem wU {i n : Int} : ∀ {l : List aa},ir i l = none → cH dv i (ak i) l n = (l,n)
 | [],_=>rfl
 | s :: r,h=>by
  simp only [ir] at h
  split at h
  ·cases h
  ·rename_i hc
   simp only [cH]
   rw [if_neg (fun hm=>hc (by simpa [dv] using hm.1)),wU (l:=r) (by simpa using h)]
theorem wV {i n : Int} (hn : 1 ≤ n) (hz : 1 ≤ ak i) : ∀ {l l' : List aa},fa i l = none → ir i l = some l' → cH dv i (ak i) l n = cH dv i (ak i) (cH (bO i) i (ak i) l' (n - 1)).1 (cH (bO i) i (ak i) l' (n - 1)).2
 | [],l',_,h=>by simp [ir] at h
 | s :: r,l',h1,h=>by
  simp only [fa] at h1
  split at h1
  ·cases h1
  ·rename_i hc1
   have h1' : fa i r = none:=by simpa using h1
   simp only [ir] at h
   split at h
   ·rename_i hc
    cases h
    have hm : dv s = true:=by simp [dv,hc]
    have hmi : bO i ⟨i,1⟩ = true:=by simp [bO]
    simp only [cH]
    rw [if_pos ⟨hm,by omega⟩]
    by_cases h2 : 0 < min (ak i - 1) (n - 1)
    ·rw [if_pos ⟨hmi,h2⟩,kH h1']
     simp only [cH]
     rw [if_neg (fun hx=>by have:=hx.1;simp [dv] at this;omega)]
     rw [show s.n + min (ak i - s.n) n = 1 + min (ak i - 1) (n - 1) by omega,show n - 1 - min (ak i - 1) (n - 1) = n - min (ak i - s.n) n by omega]
    ·rw [if_neg (fun hx=>h2 hx.2),kH h1']
     simp only [cH]
     rw [if_neg (fun hx=>by have:=hx.1;simp [dv] at this)]
     rw [show min (ak i - s.n) n = 1 by omega,hc];rfl
   ·rename_i hc
    cases hr : ir i r with
    | none=>rw [hr] at h;cases h
    | some r' =>
     rw [hr] at h
     cases h
     have hno : ∀ m : Int,¬ (bO i s = true ∧ 0 < min (ak i - s.n) m):=fun m hm=>hc1 ⟨by simpa [bO] using hm.1,by omega⟩
     have hno0 : ∀ m : Int,¬ (dv s = true ∧ 0 < min (ak i - s.n) m):=fun m hm=>hc (by simpa [dv] using hm.1)
     simp only [cH]
     rw [if_neg (hno _)]
     simp only [cH]
     rw [if_neg (hno0 _),if_neg (hno0 _),wV hn hz h1' hr]
def kU (l : List aa) (i n : Int) : List aa × Int:=cH dv i (ak i) (cH (bO i) i (ak i) l n).1 (cH (bO i) i (ak i) l n).2
theorem F_ (l : List aa) (i : Int) : kU l i 0 = (l,0):=by unfold kU;rw [o9,o9]
theorem Ga {l : List aa} {i n : Int} (h : fb l i = none) : kU l i n = (l,n):=by
 unfold fb at h
 cases h1 : fa i l with
 | some x=>rw [h1] at h;cases h
 | none=>rw [h1] at h;unfold kU;rw [kH h1,wU h]
theorem Gb {l l' : List aa} {i n : Int} (hn : 1 ≤ n) (hz : 1 ≤ ak i) (h : fb l i = some l') : kU l i n = kU l' i (n - 1):=by
 unfold fb at h
 cases h1 : fa i l with
 | some x=>rw [h1] at h;cases h;unfold kU;rw [wT hn h1]
 | none=>rw [h1] at h;unfold kU;rw [kH h1];exact wV hn hz h1 h
theorem Gc {l : List aa} {i n : Int} (hn : 1 ≤ n) (hz : ¬ ak i = 0) (hb : an l = true) : bk l i n = kU l i n:=by
 unfold bk kU
 rw [if_neg (by omega),if_neg (by simp [hz,hb]),Ci,Ci]
theorem ux {i : Int} : ∀ {l l' : List aa},fa i l = some l' → l'.length = l.length ∧ ((∀ s ∈ l,bC s = false) → ∀ s ∈ l',bC s = false)
 | [],l',h=>by simp [fa] at h
 | s :: r,l',h=>by
  simp only [fa] at h
  split at h
  ·rename_i hc
   cases h
   refine ⟨rfl,fun hb x hx=>?_⟩
   rcases List.mem_cons.1 hx with rfl|hx
   ·have:=bM.1 (hb s (by simp))
    rw [bM];simp only
    have h2:=hc.2
    rw [← hc.1] at h2
    omega
   ·exact hb x (by simp [hx])
  ·cases hr : fa i r with
   | none=>rw [hr] at h;cases h
   | some r' =>
    rw [hr] at h
    cases h
    obtain ⟨h1,h2⟩:=ux hr
    refine ⟨by simp [h1],fun hb x hx=>?_⟩
    rcases List.mem_cons.1 hx with rfl|hx
    ·exact hb x (by simp)
    ·exact h2 (fun y hy=>hb y (by simp [hy])) x hx
theorem uy {i : Int} (hz : 1 ≤ ak i) : ∀ {l l' : List aa},ir i l = some l' → l'.length = l.length ∧ ((∀ s ∈ l,bC s = false) → ∀ s ∈ l',bC s = false)
 | [],l',h=>by simp [ir] at h
 | s :: r,l',h=>by
  simp only [ir] at h
  split at h
  ·cases h
   refine ⟨rfl,fun hb x hx=>?_⟩
   rcases List.mem_cons.1 hx with rfl|hx
   ·rw [bM];simp only;omega
   ·exact hb x (by simp [hx])
  ·cases hr : ir i r with
   | none=>rw [hr] at h;cases h
   | some r' =>
    rw [hr] at h
    cases h
    obtain ⟨h1,h2⟩:=uy hz hr
    refine ⟨by simp [h1],fun hb x hx=>?_⟩
    rcases List.mem_cons.1 hx with rfl|hx
    ·exact hb x (by simp)
    ·exact h2 (fun y hy=>hb y (by simp [hy])) x hx
theorem Ab {l l' : List aa} {i : Int} (hz : 1 ≤ ak i) (h : fb l i = some l') : l'.length = l.length ∧ (an l = true → an l' = true):=by
 unfold fb at h
 cases h1 : fa i l with
 | some x=>rw [h1] at h;cases h;obtain ⟨a,b⟩:=ux h1;exact ⟨a,fun hb=>dn.2 (b (dn.1 hb))⟩
 | none=>rw [h1] at h;obtain ⟨a,b⟩:=uy hz h;exact ⟨a,fun hb=>dn.2 (b (dn.1 hb))⟩
theorem JO {i : Int} {l : List aa} {k : Nat} (hk : k < l.length) : fa i (l.drop k) = if (elt .slot l k).item = i ∧ (elt .slot l k).n < ak i then some (⟨(elt .slot l k).item,(elt .slot l k).n + 1⟩ :: l.drop (k + 1)) else (fa i (l.drop (k + 1))).map (elt .slot l k :: ·):=by
 rw [aY (t:=.slot) hk];rfl
theorem JP {i : Int} {l : List aa} {k : Nat} (hk : k < l.length) : ir i (l.drop k) = if (elt .slot l k).n = 0 then some (⟨i,1⟩ :: l.drop (k + 1)) else (ir i (l.drop (k + 1))).map (elt .slot l k :: ·):=by
 rw [aY (t:=.slot) hk];rfl
theorem ja {tt : Ty} {l : List (El tt)} {k : Nat} (hk : k < l.length) : l.take (k + 1) = l.take k ++ [elt tt l k]:=by
 have:=ar tt l k hk
 rw [List.take_add_one,this];rfl
theorem Cj {tt : Ty} {l : List (El tt)} {k : Nat} (hk : k < l.length) (x : El tt) : l.set k x = l.take k ++ x :: l.drop (k + 1):=List.set_eq_take_append_cons_drop.trans (by rw [if_pos hk])
theorem jx (i : Int) (h0 : 0 ≤ i) (h1 : i ≤ 255) : Api Tryz.prog 260 [.lit (.int .u8 i)] (i64 (ak i)):=by
 refine aF Tryz.func260 15 ?_
 conv=>whnf
 repeat' (first|exact trivial|((first|(refine ⟨fun hb=>?_,fun hb=>?_⟩<;>(try simp only [nrm] at hb)<;>try exact kZ hb)|refine kV ?_)<;>(conv=>whnf))|refine kY ?_ ?_)
 all_goals (refine congrArg (Value.int .i64) ?_;unfold ak;(repeat' split)<;>omega)
theorem dz (l : List (El .slot)) (n : Int) (hl : l.length ≤ big) (hw : ∀ s ∈ l,aQ s) : Api Tryz.prog 216 [.vec .slot l,i64 n] (bol (decide ((l.length : Int) = n) && an l)):=by
 unfold big at hl
 by_cases hn : (l.length : Int) = n
 ·rw [decide_eq_true hn,Bool.true_and]
  refine aF Tryz.func216 45 ?_
  conv=>whnf
  repeat' (first|exact trivial|((first|(refine ⟨fun hb=>?_,fun hb=>?_⟩<;>(try simp only [nrm] at hb)<;>try exact kZ hb)|refine kV ?_)<;>(conv=>whnf))|refine kY ?_ ?_)
  refine ap.loopS ah (σ:=Nat) [0,5] (fun k=>[.vec .slot l,i64 k]) (fun _=>[]) (fun k=>k ≤ l.length ∧ an (l.drop k) = an l) (fun k=>l.length - k) 0 ⟨by omega,rfl⟩ ?_ ?_
  ·exact fD0
  ·rintro k ⟨hk,he⟩
   by_cases hlt : k < l.length
   ·have hs:=jx (elt .slot l k).item (hw _ (ao (t:=.slot) hlt)).1 (hw _ (ao (t:=.slot) hlt)).2
    have hE : elt .slot l (k : Int).toNat = elt .slot l k:=rfl
    have hstep : an (l.drop k) = (!(bC (elt .slot l k)) && an (l.drop (k + 1))):=by
     rw [aY (t:=.slot) hlt];unfold an;simp
    rw [hstep] at he
    cases hbs : bC (elt .slot l k) with
    | true =>
     rw [hbs] at he
     have hb2 : ¬ (((elt .slot l k).item = 0 ∧ (elt .slot l k).n = 0) ∨ (1 ≤ (elt .slot l k).n ∧ (elt .slot l k).n ≤ ak (elt .slot l k).item)):=fun h=>by rw [bM.2 h] at hbs;cases hbs
     rw [← he]
     exact fD0
    | false =>
     rw [hbs] at he
     have hb2:=bM.1 hbs
     conv=>whnf
     repeat' (first|exact trivial|((first|(refine ⟨fun hb=>?_,fun hb=>?_⟩<;>(try simp only [nrm] at hb)<;>try exact kZ hb)|refine kV ?_)<;>(conv=>whnf))|refine kY ?_ ?_)
     all_goals
      refine .to (k + 1) ⟨hlt,by rw [← he];rfl⟩ (by omega) ?_
      conv=>whnf
      repeat' (first|exact trivial|((first|(refine ⟨fun hb=>?_,fun hb=>?_⟩<;>(try simp only [nrm] at hb)<;>try exact kZ hb)|refine kV ?_)<;>(conv=>whnf))|refine kY ?_ ?_)
   ·obtain rfl : k = l.length:=by omega
    rw [List.drop_length] at he
    rw [← he]
    exact fD0
 ·rw [decide_eq_false hn,Bool.false_and]
  refine aF Tryz.func216 45 ?_
  exact fD0
theorem Gd (l : List (El .slot)) (len : Nat) (i : Int) (hlen : len = l.length) (h0 : 0 ≤ i) (h1 : i ≤ 255) (hl : l.length ≤ 9000000000000000000) (hs : gz l) : Ev1 Tryz.prog 261 [.own .slot 1 0 len none,.lit (.int .u8 i)] [(1,.row .slot l)] (bol (fb l i).isSome) [(1,.row .slot ((fb l i).getD l))]:=by
 subst hlen
 have hst:=jx i h0 h1
 have hbd:=dG i
 refine eF Tryz.func261 53 ?_
 conv=>whnf
 refine ap.loopS ah (σ:=Nat) [0,1,5] (fun k=>[.own .slot 1 0 l.length none,.lit (.int .u8 i),i64 k]) (fun _=>[(1,.row .slot l)]) (fun k=>k ≤ l.length ∧ fa i l = (fa i (l.drop k)).map (l.take k ++ ·)) (fun k=>l.length - k) 0 ⟨by omega,by simp⟩ ?_ ?_
 ·conv=>whnf
  repeat' (first|exact trivial|((first|(refine ⟨fun hb=>?_,fun hb=>?_⟩<;>(try simp only [nrm] at hb)<;>try exact kZ hb)|refine kV ?_)<;>(conv=>whnf))|refine kY ?_ ?_)
  all_goals first|exact List.take_length|skip
 ·rintro k ⟨hk,he⟩
  by_cases hlt : k < l.length
  ·rw [JO hlt] at he
   have hE : elt .slot l ((k : Int).toNat + 0) = elt .slot l k:=rfl
   have hsk:=hs _ (ao (t:=.slot) hlt)
   have hE2 : (elt .slot l ((k : Int).toNat + 0)).n = (elt .slot l k).n:=rfl
   by_cases hc : (elt .slot l k).item = i ∧ (elt .slot l k).n < ak i
   ·rw [if_pos hc] at he
    have hr : fb l i = some (l.set k ⟨(elt .slot l k).item,(elt .slot l k).n + 1⟩):=by
     unfold fb;rw [he,Cj (tt:=.slot) hlt];rfl
    rw [hr]
    have hc1 : (elt .slot l (k + 0)).item = i:=hc.1
    have hc2 : (elt .slot l (k + 0)).n < ak i:=hc.2
    conv=>whnf
    repeat' (first|exact trivial|((first|(refine ⟨fun hb=>?_,fun hb=>?_⟩<;>(try simp only [nrm] at hb)<;>try exact kZ hb)|refine kV ?_)<;>(conv=>whnf))|refine kY ?_ ?_)
    all_goals first|rfl|exact List.take_length|skip
   ·rw [if_neg hc] at he
    have hc1 : (elt .slot l (k + 0)).item = i → ak i ≤ (elt .slot l (k + 0)).n:=fun h=>by
     rcases Int.lt_or_le (elt .slot l k).n (ak i) with h2|h2
     ·exact absurd ⟨h,h2⟩ hc
     ·exact h2
    conv=>whnf
    repeat' (first|exact trivial|((first|(refine ⟨fun hb=>?_,fun hb=>?_⟩<;>(try simp only [nrm] at hb)<;>try exact kZ hb)|refine kV ?_)<;>(conv=>whnf))|refine kY ?_ ?_)
    all_goals
     refine .to (k + 1) ⟨hlt,by rw [he,ja (tt:=.slot) hlt,Option.map_map];congr 1;funext x;simp⟩ (by omega) ?_
     conv=>whnf
     repeat' (first|exact trivial|((first|(refine ⟨fun hb=>?_,fun hb=>?_⟩<;>(try simp only [nrm] at hb)<;>try exact kZ hb)|refine kV ?_)<;>(conv=>whnf))|refine kY ?_ ?_)
    all_goals first|exact List.take_length|skip
  ·obtain rfl : k = l.length:=by omega
   rw [List.drop_length] at he
   have h1n : fa i l = none:=he
   conv=>whnf
   repeat' (first|exact trivial|((first|(refine ⟨fun hb=>?_,fun hb=>?_⟩<;>(try simp only [nrm] at hb)<;>try exact kZ hb)|refine kV ?_)<;>(conv=>whnf))|refine kY ?_ ?_)
   refine ap.loopS ah (σ:=Nat) [0,1,6] (fun k=>[.own .slot 1 0 l.length none,.lit (.int .u8 i),i64 k]) (fun _=>[(1,.row .slot l)]) (fun k=>k ≤ l.length ∧ ir i l = (ir i (l.drop k)).map (l.take k ++ ·)) (fun k=>l.length - k) 0 ⟨by omega,by simp⟩ ?_ ?_
   ·conv=>whnf
    repeat' (first|exact trivial|((first|(refine ⟨fun hb=>?_,fun hb=>?_⟩<;>(try simp only [nrm] at hb)<;>try exact kZ hb)|refine kV ?_)<;>(conv=>whnf))|refine kY ?_ ?_)
    all_goals first|exact List.take_length|skip
   ·rintro k ⟨hk,he⟩
    by_cases hlt : k < l.length
    ·rw [JP hlt] at he
     have hE2 : (elt .slot l ((k : Int).toNat + 0)).n = (elt .slot l k).n:=rfl
     by_cases hc : (elt .slot l k).n = 0
     ·rw [if_pos hc] at he
      have hr : fb l i = some (l.set k ⟨i,1⟩):=by
       unfold fb;rw [h1n,he,Cj (tt:=.slot) hlt];rfl
      rw [hr]
      have hc1 : (elt .slot l (k + 0)).n = 0:=hc
      conv=>whnf
      repeat' (first|exact trivial|((first|(refine ⟨fun hb=>?_,fun hb=>?_⟩<;>(try simp only [nrm] at hb)<;>try exact kZ hb)|refine kV ?_)<;>(conv=>whnf))|refine kY ?_ ?_)
      all_goals first|rfl|exact List.take_length|skip
     ·rw [if_neg hc] at he
      have hc1 : ¬ (elt .slot l (k + 0)).n = 0:=hc
      conv=>whnf
      repeat' (first|exact trivial|((first|(refine ⟨fun hb=>?_,fun hb=>?_⟩<;>(try simp only [nrm] at hb)<;>try exact kZ hb)|refine kV ?_)<;>(conv=>whnf))|refine kY ?_ ?_)
      refine .to (k + 1) ⟨hlt,by rw [he,ja (tt:=.slot) hlt,Option.map_map];congr 1;funext x;simp⟩ (by omega) ?_
      conv=>whnf
      repeat' (first|exact trivial|((first|(refine ⟨fun hb=>?_,fun hb=>?_⟩<;>(try simp only [nrm] at hb)<;>try exact kZ hb)|refine kV ?_)<;>(conv=>whnf))|refine kY ?_ ?_)
      all_goals first|exact List.take_length|skip
    ·obtain rfl : k = l.length:=by omega
     rw [List.drop_length] at he
     have hr : fb l i = none:=by unfold fb;rw [h1n,he];rfl
     rw [hr]
     conv=>whnf
     repeat' (first|exact trivial|((first|(refine ⟨fun hb=>?_,fun hb=>?_⟩<;>(try simp only [nrm] at hb)<;>try exact kZ hb)|refine kV ?_)<;>(conv=>whnf))|refine kY ?_ ?_)
     all_goals first|rfl|exact List.take_length|skip
theorem fE (l : List (El .slot)) (i n : Int) (hl : l.length * 16 ≤ 140737488355328) (hw : ∀ s ∈ l,aQ s) (h0 : 0 ≤ i) (h1 : i ≤ 255) (hn : n ≤ 9223372036854775807) (hn0 : -9223372036854775808 ≤ n) : Api Tryz.prog 220 [.vec .slot l,.lit (.int .u8 i),i64 n] (.tup [.vec .slot (bk l i n).1,i64 (bk l i n).2]):=by
 have hst:=jx i h0 h1
 have hrt:=dz l l.length (by unfold big;omega) hw
 rw [decide_eq_true rfl,Bool.true_and] at hrt
 have hbd:=dG i
 by_cases hn1 : n < 1
 ·have hp : bk l i n = (l,0):=by unfold bk;rw [if_pos hn1]
  rw [hp]
  cases hbk : an l
  all_goals
   rw [hbk] at hrt
   refine aF Tryz.func220 37 ?_
   conv=>whnf
   repeat' (first|exact trivial|((first|(refine ⟨fun hb=>?_,fun hb=>?_⟩<;>(try simp only [nrm] at hb)<;>try exact kZ hb)|refine kV ?_)<;>(conv=>whnf))|refine kY ?_ ?_)
   all_goals first|(simp;done)|(refine congrArg (Value.int .i64) ?_;omega)|skip
 ·by_cases hz : ak i = 0
  ·have hp : bk l i n = (l,n):=by unfold bk;rw [if_neg hn1,if_pos (.inl hz)]
   rw [hp]
   cases hbk : an l
   all_goals
    rw [hbk] at hrt
    refine aF Tryz.func220 37 ?_
    conv=>whnf
    repeat' (first|exact trivial|((first|(refine ⟨fun hb=>?_,fun hb=>?_⟩<;>(try simp only [nrm] at hb)<;>try exact kZ hb)|refine kV ?_)<;>(conv=>whnf))|refine kY ?_ ?_)
    all_goals first|(simp;done)|(refine congrArg (Value.int .i64) ?_;omega)|skip
  ·cases hbk : an l with
   | false =>
    have hp : bk l i n = (l,n):=by unfold bk;rw [if_neg hn1,if_pos (.inr hbk)]
    rw [hp]
    rw [hbk] at hrt
    refine aF Tryz.func220 37 ?_
    conv=>whnf
    repeat' (first|exact trivial|((first|(refine ⟨fun hb=>?_,fun hb=>?_⟩<;>(try simp only [nrm] at hb)<;>try exact kZ hb)|refine kV ?_)<;>(conv=>whnf))|refine kY ?_ ?_)
    all_goals first|(simp;done)|(refine congrArg (Value.int .i64) ?_;omega)|skip
   | true =>
    rw [Gc (by omega) hz hbk]
    rw [hbk] at hrt
    generalize hB : kU l i n = B at *
    refine aF Tryz.func220 37 ?_
    conv=>whnf
    repeat' (first|exact trivial|((first|(refine ⟨fun hb=>?_,fun hb=>?_⟩<;>(try simp only [nrm] at hb)<;>try exact kZ hb)|refine kV ?_)<;>(conv=>whnf))|refine kY ?_ ?_)
    refine ap.loopS ah (σ:=Int × List aa) [1,2,8] (fun (m,L)=>[.lit (.int .u8 i),i64 m,.own .slot 190001 0 l.length none]) (fun (m,L)=>[(190001,.row .slot L)])
     (fun (m,L)=>0 ≤ m ∧ m ≤ n ∧ an L = true ∧ L.length = l.length ∧ kU L i m = B) (fun (m,L)=>m.toNat) (n,l) ⟨by omega,by omega,hbk,rfl,hB⟩ ?_ ?_
    ·conv=>whnf
     repeat' (first|exact trivial|((first|(refine ⟨fun hb=>?_,fun hb=>?_⟩<;>(try simp only [nrm] at hb)<;>try exact kZ hb)|refine kV ?_)<;>(conv=>whnf))|refine kY ?_ ?_)
     all_goals first|(simp;done)|skip
    ·rintro ⟨m,L⟩ ⟨g1,g2,g3,g4,g5⟩
     dsimp only
     have ho:=Gd L l.length i g4.symm h0 h1 (by omega) (bU g3)
     by_cases hm : m = 0
     ·subst hm
      rw [F_] at g5
      subst g5
      conv=>whnf
      repeat' (first|exact trivial|((first|(refine ⟨fun hb=>?_,fun hb=>?_⟩<;>(try simp only [nrm] at hb)<;>try exact kZ hb)|refine kV ?_)<;>(conv=>whnf))|refine kY ?_ ?_)
      all_goals first|rfl|(simp;done)|(refine aC ?_;simp [g4];done)|(simp [g4];done)|(refine aC ?_;dsimp only;omega)|skip
     ·cases hr : fb L i with
      | none =>
       rw [hr] at ho
       rw [Ga hr] at g5
       subst g5
       conv=>whnf
       repeat' (first|exact trivial|((first|refine kL ?_|(refine ⟨fun hb=>?_,fun hb=>?_⟩<;>(try simp only [nrm] at hb)<;>try exact kZ hb)|refine kE ho [(1,190001)] rfl ?_|refine kF ho [(1,190001)] rfl ?_|refine kV ?_)<;>(conv=>whnf))|refine kY ?_ ?_)
       all_goals first|rfl|(simp;done)|(refine aC ?_;simp [g4];done)|(simp [g4];done)|(refine aC ?_;dsimp only;omega)|skip
      | some L' =>
       rw [hr] at ho
       dsimp only [Option.isSome_some,Option.getD_some] at ho
       obtain ⟨q1,q2⟩:=Ab (by omega) hr
       rw [Gb (by omega) (by omega) hr] at g5
       conv=>whnf
       repeat' (first|exact trivial|((first|refine kL ?_|(refine ⟨fun hb=>?_,fun hb=>?_⟩<;>(try simp only [nrm] at hb)<;>try exact kZ hb)|refine kE ho [(1,190001)] rfl ?_|refine kF ho [(1,190001)] rfl ?_|refine kV ?_)<;>(conv=>whnf))|refine kY ?_ ?_)
       refine .to (m - 1,L') ⟨by dsimp only;omega,by dsimp only;omega,q2 g3,by rw [q1];exact g4,g5⟩ (by dsimp only;omega) ?_
       conv=>whnf
       repeat' (first|exact trivial|((first|(refine ⟨fun hb=>?_,fun hb=>?_⟩<;>(try simp only [nrm] at hb)<;>try exact kZ hb)|refine kV ?_)<;>(conv=>whnf))|refine kY ?_ ?_)
       all_goals first|rfl|exact aC (q1.trans g4)|(simp;done)|(refine aC ?_;simp [g4];done)|(simp [g4];done)|(refine aC ?_;dsimp only;omega)|skip
theorem iw (l : List (El .slot)) (a n : Int) (hl : l.length * 16 ≤ 140737488355328) (hw : ∀ s ∈ l,aQ s) : Api Tryz.prog 160 [.vec .slot l,i64 a,i64 n] (.tup [.vec .slot (aj l a n).1,.agg [.lit (.int .u8 (aj l a n).2.1.item),.lit (.int .i64 (aj l a n).2.1.n)],i64 (aj l a n).2.2]):=by
 have hrt:=dz l l.length (by unfold big;omega) hw
 rw [decide_eq_true rfl,Bool.true_and] at hrt
 unfold aj
 by_cases hr : 0 ≤ a ∧ a < l.length
 ·cases hbk : an l with
  | false =>
   rw [if_pos (.inr (.inr rfl))]
   rw [hbk] at hrt
   refine aF Tryz.func160 71 ?_
   conv=>whnf
   repeat' (first|exact trivial|((first|(refine ⟨fun hb=>?_,fun hb=>?_⟩<;>(try simp only [nrm] at hb)<;>try exact kZ hb)|refine kV ?_)<;>(conv=>whnf))|refine kY ?_ ?_)
   all_goals first|(simp;done)|skip
  | true =>
   rw [if_neg (by simp;omega)]
   rw [hbk] at hrt
   have hsm:=bU hbk _ (ao (t:=.slot) (l:=l) (i:=a.toNat) (by omega))
   have hn3 : (elt .slot (List.take 0 ([] : List (El .slot)) ++ l) (a.toNat + 0)).n = (elt .slot l a.toNat).n:=rfl
   by_cases hn1 : n < 1
   ·rw [if_pos hn1]
    refine aF Tryz.func160 71 ?_
    conv=>whnf
    repeat' (first|exact trivial|((first|(refine ⟨fun hb=>?_,fun hb=>?_⟩<;>(try simp only [nrm] at hb)<;>try exact kZ hb)|refine kV ?_)<;>(conv=>whnf))|refine kY ?_ ?_)
    all_goals first|(simp;done)|skip
   ·rw [if_neg hn1]
    by_cases hwant : (elt .slot l a.toNat).n < n
    ·rw [if_pos hwant]
     refine aF Tryz.func160 71 ?_
     conv=>whnf
     repeat' (first|exact trivial|((first|(refine ⟨fun hb=>?_,fun hb=>?_⟩<;>(try simp only [nrm] at hb)<;>try exact kZ hb)|refine kV ?_)<;>(conv=>whnf))|refine kY ?_ ?_)
     all_goals first|(simp;done)|skip
    ·rw [if_neg hwant]
     refine aF Tryz.func160 71 ?_
     conv=>whnf
     repeat' (first|exact trivial|((first|(refine ⟨fun hb=>?_,fun hb=>?_⟩<;>(try simp only [nrm] at hb)<;>try exact kZ hb)|refine kV ?_)<;>(conv=>whnf))|refine kY ?_ ?_)
     ·simp only [Nat.add_zero,List.take_zero,List.nil_append,List.drop_zero,Nat.zero_add] at hb ⊢
      rw [sG (by omega) hb];exact aC (List.length_set ..)
     ·simp only [Nat.add_zero,List.take_zero,List.nil_append,List.drop_zero,Nat.zero_add] at hb ⊢
      rw [sH (by omega) hb];exact aC (List.length_set ..)
 ·rw [if_pos (by omega)]
  cases hbk : an l
  all_goals
   rw [hbk] at hrt
   refine aF Tryz.func160 71 ?_
   conv=>whnf
   repeat' (first|exact trivial|((first|(refine ⟨fun hb=>?_,fun hb=>?_⟩<;>(try simp only [nrm] at hb)<;>try exact kZ hb)|refine kV ?_)<;>(conv=>whnf))|refine kY ?_ ?_)
   all_goals first|(simp;done)|skip
theorem o_ (l m : List (El .slot)) (hl : l.length * 16 ≤ 140737488355328) (hw : ∀ s ∈ l,aQ s) (hm : m.length ≤ 9000000000000000000) (hv : ∀ s ∈ m,aQ s) : Api Tryz.prog 265 [.vec .slot l,.vec .slot m] (.tup [.vec .slot (dY l m).1,i64 (dY l m).2]):=by
 have hrl:=dz l l.length (by unfold big;omega) hw
 have hrm:=dz m m.length (by unfold big;omega) hv
 rw [decide_eq_true rfl,Bool.true_and] at hrl hrm
 unfold dY
 cases hbl : an l with
 | false =>
  rw [if_pos (.inl rfl)]
  rw [hbl] at hrl
  refine aF Tryz.func265 56 ?_
  conv=>whnf
  repeat' (first|exact trivial|((first|(refine ⟨fun hb=>?_,fun hb=>?_⟩<;>(try simp only [nrm] at hb)<;>try exact kZ hb)|refine kV ?_)<;>(conv=>whnf))|refine kY ?_ ?_)
  all_goals first|(simp;done)|skip
 | true =>
  rw [hbl] at hrl
  cases hbm : an m with
  | false =>
   rw [if_pos (.inr rfl)]
   rw [hbm] at hrm
   refine aF Tryz.func265 56 ?_
   conv=>whnf
   repeat' (first|exact trivial|((first|(refine ⟨fun hb=>?_,fun hb=>?_⟩<;>(try simp only [nrm] at hb)<;>try exact kZ hb)|refine kV ?_)<;>(conv=>whnf))|refine kY ?_ ?_)
   all_goals first|(simp;done)|skip
  | true =>
   rw [if_neg (by simp)]
   rw [hbm] at hrm
   have hsm:=bU hbm
   refine aF Tryz.func265 56 ?_
   conv=>whnf
   repeat' (first|exact trivial|((first|(refine ⟨fun hb=>?_,fun hb=>?_⟩<;>(try simp only [nrm] at hb)<;>try exact kZ hb)|refine kV ?_)<;>(conv=>whnf))|refine kY ?_ ?_)
   refine ap.loopS ah (σ:=Nat × List aa) [0,1,6,7] (fun (k,out)=>[.vec .slot l,.vec .slot m,.vec .slot out,i64 k]) (fun _=>[])
    (fun (k,out)=>k ≤ m.length ∧ eB (m.drop k) out = eB m l ∧ out.length = l.length ∧ ∀ s ∈ out,aQ s) (fun (k,_)=>m.length - k) (0,l) ⟨by omega,rfl,rfl,hw⟩ ?_ ?_
   ·conv=>whnf
    repeat' (first|exact trivial|((first|(refine ⟨fun hb=>?_,fun hb=>?_⟩<;>(try simp only [nrm] at hb)<;>try exact kZ hb)|refine kV ?_)<;>(conv=>whnf))|refine kY ?_ ?_)
    all_goals first|(simp;done)|skip
   ·rintro ⟨k,out⟩ ⟨hk,hg,hlen,hok⟩
    dsimp only
    by_cases hlt : k < m.length
    ·rw [aY (t:=.slot) hlt] at hg
     simp only [eB] at hg
     have hE:=hsm _ (ao (t:=.slot) hlt)
     have hE2:=hv _ (ao (t:=.slot) hlt)
     have hE3 : (elt .slot m (k : Int).toNat).n = (elt .slot m k).n:=rfl
     have hput:=fE out (elt .slot m k).item (elt .slot m k).n (by omega) hok hE2.1 hE2.2 (by omega) (by omega)
     have hpl:=da out (elt .slot m k).item (elt .slot m k).n
     have hpo:=qU (n:=(elt .slot m k).n) hok hE2
     by_cases h00 : (elt .slot m k).n = 0
     ·have hp0 : bk out (elt .slot m k).item (elt .slot m k).n = (out,0):=by unfold bk;rw [if_pos (by omega)]
      rw [hp0,if_neg (by simp)] at hg
      have h01 : (elt .slot m (k : Int).toNat).n = 0:=h00
      conv=>whnf
      repeat' (first|exact trivial|((first|(refine ⟨fun hb=>?_,fun hb=>?_⟩<;>(try simp only [nrm] at hb)<;>try exact kZ hb)|refine kV ?_)<;>(conv=>whnf))|refine kY ?_ ?_)
      refine .to (k + 1,out) ⟨hlt,hg,hlen,hok⟩ (by dsimp only;omega) ?_
      exact fD0
     ·generalize bk out (elt .slot m k).item (elt .slot m k).n = Q at *
      obtain ⟨Q,q⟩:=Q
      dsimp only at hg hput hpl hpo
      have h01 : ¬ (elt .slot m (k : Int).toNat).n = 0:=h00
      conv=>whnf
      repeat' (first|exact trivial|((first|(refine ⟨fun hb=>?_,fun hb=>?_⟩<;>(try simp only [nrm] at hb)<;>try exact kZ hb)|refine kV ?_)<;>(conv=>whnf))|refine kY ?_ ?_)
      ·rw [if_pos hb] at hg;rw [← hg];simp
      ·rw [if_pos hb] at hg;rw [← hg]
      ·rw [if_neg (by omega)] at hg
       refine .to (k + 1,Q) ⟨hlt,hg,hpl.trans hlen,hpo⟩ (by dsimp only;omega) ?_
       exact fD0
    ·obtain rfl : k = m.length:=by omega
     rw [List.drop_length] at hg
     simp only [eB] at hg
     conv=>whnf
     repeat' (first|exact trivial|((first|(refine ⟨fun hb=>?_,fun hb=>?_⟩<;>(try simp only [nrm] at hb)<;>try exact kZ hb)|refine kV ?_)<;>(conv=>whnf))|refine kY ?_ ?_)
     all_goals rw [← hg]
open Go Go.RowKit Eng
abbrev iP : AV:=.lit (.slice none 0 0)
abbrev qr : List AV:=[i64 16,.lit (.int .u64 0),i64 0,iP,iP]
abbrev vr : AV:=.agg [i64 16,.lit (.int .u64 0),i64 0,iP,iP]
theorem nx (p : Player) (hp : OkP p) : Api Tryz.prog 153 [aw p] (bol (a7 p)):=by
 have h1:=dz p.bag 8 (by have:=hp.nb;unfold big;omega) hp.bag
 have h2:=dz p.offer 8 (by have:=hp.no;unfold big;omega) hp.offer
 have h3:=hp.no
 change Api _ _ _ (bol (jL p.bag)) at h1
 change Api _ _ _ (bol (jL p.offer)) at h2
 unfold a7
 generalize jL p.bag = b1 at *
 generalize jL p.offer = b2 at *
 cases b1<;>cases b2<;>cases hag : p.agrees
 all_goals
  refine aF Tryz.func153 48 ?_
  conv=>whnf
  repeat' (first|exact trivial|((first|(refine ⟨fun hb=>?_,fun hb=>?_⟩<;>(try simp only [nrm] at hb)<;>try exact kZ hb)|refine kV ?_)<;>(conv=>whnf))|refine kY ?_ ?_)
  all_goals first
   | (refine congrArg Value.bool ?_;simp;done)
   | (refine congrArg Value.bool ?_;simp;omega)
   | (refine congrArg Value.bool ?_;simp [*];done)
   | (refine congrArg Value.bool ?_;simp [*];omega)
   | (refine congrArg Value.bool ?_;simp_all;done)
   | (refine congrArg Value.bool ?_;simp_all;omega)
   | (simp_all;done)
theorem H_ (x y : Int) : av 16 x y = true ↔ 0 ≤ x ∧ 0 ≤ y ∧ x < 128 ∧ y < 128:=by
 unfold av
 rw [pI (by omega) (by omega)]
 simp only [Bool.and_eq_true,decide_eq_true_eq]
 omega
theorem DY (p : Player) : Api Tryz.prog 154 [vr,aw p] (bol (av 16 p.x p.y)):=by
 have h:=H_ p.x p.y
 cases hW : av 16 p.x p.y with
 | true =>
  obtain ⟨h1,h2,h3,h4⟩:=h.1 hW
  refine aF Tryz.func154 27 ?_
  conv=>whnf
  repeat' (first|exact trivial|((first|(refine ⟨fun hb=>?_,fun hb=>?_⟩<;>(try simp only [nrm] at hb)<;>try exact kZ hb)|refine kV ?_)<;>(conv=>whnf))|refine kY ?_ ?_)
  all_goals (refine congrArg Value.bool ?_;simp;omega)
 | false =>
  have h5 : ¬ (0 ≤ p.x ∧ 0 ≤ p.y ∧ p.x < 128 ∧ p.y < 128):=fun hx=>by rw [h.2 hx] at hW;cases hW
  refine aF Tryz.func154 27 ?_
  conv=>whnf
  repeat' (first|exact trivial|((first|(refine ⟨fun hb=>?_,fun hb=>?_⟩<;>(try simp only [nrm] at hb)<;>try exact kZ hb)|refine kV ?_)<;>(conv=>whnf))|refine kY ?_ ?_)
  all_goals (refine congrArg Value.bool ?_;simp;omega)
theorem A_  : Api Tryz.prog 37 [vr] vr:=by
 refine aF Tryz.func37 60 ?_
 conv=>whnf
 repeat' (first|exact trivial|((first|(refine ⟨fun hb=>?_,fun hb=>?_⟩<;>(try simp only [nrm] at hb)<;>try exact kZ hb)|refine kV ?_)<;>(conv=>whnf))|refine kY ?_ ?_)
 refine ap.loopS ah (σ:=Nat) [1,2,3,4] (fun _=>[.ptr 2 0,.ptr 4 0,.ptr 6 0,i64 0]) (fun _=>[(2,.box qr),(4,.box [i64 0,.lit (.int .u64 0),i64 0,iP,iP]),(6,.box qr)]) (fun _=>True) (fun _=>0) 0 trivial ?_ ?_
 ·exact fD0
 ·intro k _
  conv=>whnf
  repeat' (first|exact trivial|((first|(refine ⟨fun hb=>?_,fun hb=>?_⟩<;>(try simp only [nrm] at hb)<;>try exact kZ hb)|refine kV ?_)<;>(conv=>whnf))|refine kY ?_ ?_)
  refine ap.loopS ah (σ:=Nat) [1,2,3,5] (fun _=>[.ptr 2 0,.ptr 4 0,.ptr 6 0,i64 0]) (fun _=>[(2,.box qr),(4,.box [i64 0,.lit (.int .u64 0),i64 0,iP,iP]),(6,.box qr)]) (fun _=>True) (fun _=>0) 0 trivial ?_ ?_
  ·exact fD0
  ·intro k _
   exact fD0
theorem uz  : Api Tryz.prog 80 [vr] (bol true):=by
 refine aF Tryz.func80 137 ?_
 conv=>whnf
 repeat' (first|exact trivial|((first|(refine ⟨fun hb=>?_,fun hb=>?_⟩<;>(try simp only [nrm] at hb)<;>try exact kZ hb)|refine kV ?_)<;>(conv=>whnf))|refine kY ?_ ?_)
 refine ap.loopS ah (σ:=Nat) [1,3] (fun _=>[.ptr 2 0,i64 0]) (fun _=>[(2,.box qr)]) (fun _=>True) (fun _=>0) 0 trivial ?_ ?_
 ·exact fD0
 ·intro k _
  conv=>whnf
  repeat' (first|exact trivial|((first|(refine ⟨fun hb=>?_,fun hb=>?_⟩<;>(try simp only [nrm] at hb)<;>try exact kZ hb)|refine kV ?_)<;>(conv=>whnf))|refine kY ?_ ?_)
  refine ap.loopS ah (σ:=Nat) [1,5] (fun _=>[.ptr 2 0,i64 0]) (fun _=>[(2,.box qr)]) (fun _=>True) (fun _=>0) 0 trivial ?_ ?_
  ·exact fD0
  ·intro k _
   exact fD0
def noP : Player:=⟨0,0,0,[],0,[],false⟩
theorem Ba (id : Int) : Api Tryz.prog 82 [vr,i64 id] (.tup [aw noP,bol false]):=by
 have h:=uz
 refine aF Tryz.func82 29 ?_
 conv=>whnf
 repeat' (first|exact trivial|((first|(refine ⟨fun hb=>?_,fun hb=>?_⟩<;>(try simp only [nrm] at hb)<;>try exact kZ hb)|refine kV ?_)<;>(conv=>whnf))|refine kY ?_ ?_)
 refine ap.loopS ah (σ:=Nat) [1,2,4,6] (fun _=>[i64 id,.ptr 4 0,.ptr 8 0,i64 0]) (fun _=>[(4,.box qr),(8,.box [i64 0,i64 0,i64 0,iP,i64 0,iP,bol false])]) (fun _=>True) (fun _=>0) 0 trivial ?_ ?_
 ·exact fD0
 ·intro k _
  exact fD0
theorem Ac (p : Player) (hp : OkP p) : Api Tryz.prog 83 [vr,aw p] (.tup [.agg [i64 16,.lit (.int .u64 0),i64 0,.vec .chunk [],.vec .player (if bV p = true then [p] else [])],i64 (if bV p = true then 0 else 110)]):=by
 have h1:=A_
 have h2:=uz
 have h3:=nx p hp
 have h4:=DY p
 have h5:=Ba p.id
 have h6:=hp.nb
 have h7:=hp.no
 unfold bV
 cases hS : a7 p
 all_goals
  rw [hS] at h3
  cases hW : av 16 p.x p.y
  all_goals
   rw [hW] at h4
   refine aF Tryz.func83 102 ?_
   conv=>whnf
   repeat' (first|exact trivial|((first|(refine ⟨fun hb=>?_,fun hb=>?_⟩<;>(try simp only [nrm] at hb)<;>try exact kZ hb)|refine kV ?_)<;>(conv=>whnf))|refine kY ?_ ?_)
 refine ap.loopS ah (σ:=Nat) [3,4,6,9,10,11] (fun _=>[.ptr 6 0,.ptr 8 0,.ptr 12 0,iP,bol false,i64 0]) (fun _=>[(6,.box [i64 p.id,i64 p.x,i64 p.y,.own .slot 95 0 p.bag.length none,i64 p.wth,.own .slot 103 0 p.offer.length none,bol p.agrees]),(8,.box [i64 0,.lit (.int .u64 0),i64 0,iP,iP]),(12,.box qr),(95,.row .slot p.bag),(103,.row .slot p.offer)]) (fun _=>True) (fun _=>0) 0 trivial ?_ ?_
 ·conv=>whnf
  repeat' (first|exact trivial|((first|(refine ⟨fun hb=>?_,fun hb=>?_⟩<;>(try simp only [nrm] at hb)<;>try exact kZ hb)|refine kV ?_)<;>(conv=>whnf))|refine kY ?_ ?_)
  all_goals first|(simp;done)|skip
 ·intro k _
  conv=>whnf
  repeat' (first|exact trivial|((first|(refine ⟨fun hb=>?_,fun hb=>?_⟩<;>(try simp only [nrm] at hb)<;>try exact kZ hb)|refine kV ?_)<;>(conv=>whnf))|refine kY ?_ ?_)
  all_goals first|(simp;done)|skip
open Go Go.RowKit Eng
theorem jW (p : Player) (hp : OkP p) : Api Tryz.prog 263 [aw p] (aw p):=by
 have h1:=hp.nb
 have h2:=hp.no
 refine aF Tryz.func263 13 ?_
 conv=>whnf
 repeat' (first|exact trivial|((first|(refine ⟨fun hb=>?_,fun hb=>?_⟩<;>(try simp only [nrm] at hb)<;>try exact kZ hb)|refine kV ?_)<;>(conv=>whnf))|refine kY ?_ ?_)
 all_goals first|(simp;done)|skip
theorem qs (p q : Player) (hp : OkP p) (hq : OkP q) : Api Tryz.prog 264 [aw p,aw q] (bol (fO p q)):=by
 have h1:=Ac p hp
 have h2:=Ac q hq
 generalize (if bV p = true then [p] else []) = L1 at h1
 generalize (if bV q = true then [q] else []) = L2 at h2
 unfold fO
 cases hP : bV p
 all_goals
  rw [hP] at h1
  cases hQ : bV q
  all_goals
   rw [hQ] at h2
   by_cases he : p.id = q.id
   all_goals
    first|rw [decide_eq_true he]|rw [decide_eq_false he]
    refine aF Tryz.func264 34 ?_
    conv=>whnf
    repeat' (first|exact trivial|((first|(refine ⟨fun hb=>?_,fun hb=>?_⟩<;>(try simp only [nrm] at hb)<;>try exact kZ hb)|refine kV ?_)<;>(conv=>whnf))|refine kY ?_ ?_)
    all_goals first|rfl|(refine congrArg Value.bool ?_;simp [he];done)|(exfalso;simp at hb;done)
theorem DZ (p q : Player) (a n : Int) (hp : OkP p) (hq : OkP q) : Api Tryz.prog 224 [aw p,aw q,i64 a,i64 n] (.tup [aw (cB p q a n).1,aw (cB p q a n).2.1,i64 (cB p q a n).2.2]):=by
 have h1:=jW p hp
 have h2:=jW q hq
 have h3:=qs p q hp hq
 have h4:=iw p.bag a n (by have:=hp.nb;omega) hp.bag
 have hnb : ce.length = 8:=rfl
 have hnk : ∀ s ∈ ce,aQ s:=by intro s hs;rw [(List.mem_replicate.1 hs).2];exact ⟨by decide,by decide⟩
 have hto:=fK (a:=a) (n:=n) hp.bag
 have htn:=fm (l:=p.bag) (a:=a) (n:=n)
 unfold cB
 cases hD : fO p q with
 | false =>
  rw [if_pos rfl]
  rw [hD] at h3
  refine aF Tryz.func224 85 ?_
  exact fD0
 | true =>
  rw [if_neg (by simp)]
  rw [hD] at h3
  by_cases hw : ¬ p.wth = -1 ∧ ¬ p.wth = q.id
  ·rw [if_pos hw]
   refine aF Tryz.func224 85 ?_
   exact fD0
  ·rw [if_neg hw]
   by_cases hE : (aj p.bag a n).2.2 = 0
   ·rw [if_neg (by simpa using hE)]
    obtain ⟨hn1,hn2,hn3,_⟩:=htn hE
    by_cases hm : p.wth = -1
    ·rw [if_pos hm]
     have h7:=fE ce (aj p.bag a n).2.1.item (aj p.bag a n).2.1.n (by omega) hnk hto.1.1 hto.1.2 (by omega) (by omega)
     rw [hE] at h4
     generalize bk ce (aj p.bag a n).2.1.item (aj p.bag a n).2.1.n = R at *
     generalize aj p.bag a n = T at *
     obtain ⟨R,r⟩:=R
     obtain ⟨T1,T2,T3⟩:=T
     dsimp only at *
     by_cases hr : 0 < r
     ·rw [if_pos hr]
      refine aF Tryz.func224 85 ?_
      conv=>whnf
      repeat' (first|exact trivial|((first|refine kL ?_|(refine ⟨fun hb=>?_,fun hb=>?_⟩<;>(try simp only [nrm] at hb)<;>try exact kZ hb)|(refine xP h7 rfl rfl ?_;(conv=>whnf);refine ⟨by decide,rfl,?_⟩)|refine kV ?_)<;>(conv=>whnf))|refine kY ?_ ?_)
      all_goals first|(refine congrArg Value.bool ?_;simp [fC,hb];done)|skip
     ·rw [if_neg hr]
      refine aF Tryz.func224 85 ?_
      conv=>whnf
      repeat' (first|exact trivial|((first|refine kL ?_|(refine ⟨fun hb=>?_,fun hb=>?_⟩<;>(try simp only [nrm] at hb)<;>try exact kZ hb)|(refine xP h7 rfl rfl ?_;(conv=>whnf);refine ⟨by decide,rfl,?_⟩)|refine kV ?_)<;>(conv=>whnf))|refine kY ?_ ?_)
      all_goals first|(refine congrArg Value.bool ?_;simp [fC,hb];done)|skip
    ·rw [if_neg hm]
     have h7:=fE p.offer (aj p.bag a n).2.1.item (aj p.bag a n).2.1.n (by have:=hp.no;omega) hp.offer hto.1.1 hto.1.2 (by omega) (by omega)
     rw [hE] at h4
     generalize bk p.offer (aj p.bag a n).2.1.item (aj p.bag a n).2.1.n = R at *
     generalize aj p.bag a n = T at *
     obtain ⟨R,r⟩:=R
     obtain ⟨T1,T2,T3⟩:=T
     dsimp only at *
     by_cases hr : 0 < r
     ·rw [if_pos hr]
      refine aF Tryz.func224 85 ?_
      conv=>whnf
      repeat' (first|exact trivial|((first|(refine ⟨fun hb=>?_,fun hb=>?_⟩<;>(try simp only [nrm] at hb)<;>try exact kZ hb)|refine kV ?_)<;>(conv=>whnf))|refine kY ?_ ?_)
      all_goals first|(refine congrArg Value.bool ?_;simp [fC,hb];done)|skip
     ·rw [if_neg hr]
      refine aF Tryz.func224 85 ?_
      conv=>whnf
      repeat' (first|exact trivial|((first|(refine ⟨fun hb=>?_,fun hb=>?_⟩<;>(try simp only [nrm] at hb)<;>try exact kZ hb)|refine kV ?_)<;>(conv=>whnf))|refine kY ?_ ?_)
      all_goals first|(refine congrArg Value.bool ?_;simp [fC,hb];done)|skip
   ·rw [if_pos hE]
    generalize aj p.bag a n = T at *
    obtain ⟨T1,T2,T3⟩:=T
    dsimp only at *
    refine aF Tryz.func224 85 ?_
    exact fD0
theorem D0 (p q : Player) (hp : OkP p) (hq : OkP q) : Api Tryz.prog 225 [aw p,aw q] (.tup [aw (bo p q).1,aw (bo p q).2.1,bol (bo p q).2.2.1,i64 (bo p q).2.2.2]):=by
 have h1:=jW p hp
 have h2:=jW q hq
 have h3:=qs p q hp hq
 have h4:=o_ p.bag q.offer (by have:=hp.nb;omega) hp.bag (by have:=hq.no;omega) hq.offer
 have h5:=o_ q.bag p.offer (by have:=hq.nb;omega) hq.bag (by have:=hp.no;omega) hp.offer
 unfold bo
 cases hD : fO p q with
 | false =>
  rw [if_pos rfl]
  rw [hD] at h3
  refine aF Tryz.func225 78 ?_
  exact fD0
 | true =>
  rw [if_neg (by simp)]
  rw [hD] at h3
  by_cases hw : ¬ p.wth = q.id ∨ ¬ q.wth = p.id
  ·rw [if_pos hw]
   refine aF Tryz.func225 78 ?_
   exact fD0
  ·rw [if_neg hw]
   cases hA : q.agrees with
   | false =>
    rw [if_pos rfl]
    refine aF Tryz.func225 78 ?_
    exact fD0
   | true =>
    rw [if_neg (by simp)]
    generalize dY p.bag q.offer = A at *
    generalize dY q.bag p.offer = B at *
    obtain ⟨A,x⟩:=A
    obtain ⟨B,y⟩:=B
    dsimp only at *
    by_cases hx : ¬ x = 0 ∨ ¬ y = 0
    ·rw [if_pos hx]
     refine aF Tryz.func225 78 ?_
     exact fD0
    ·rw [if_neg hx]
     refine aF Tryz.func225 78 ?_
     exact fD0
theorem Bb (p q : Player) (hp : OkP p) (hq : OkP q) : Api Tryz.prog 226 [aw p,aw q] (.tup [aw (b6 p q).1,aw (b6 p q).2.1,i64 (b6 p q).2.2]):=by
 have h1:=jW p hp
 have h2:=jW q hq
 have h3:=qs p q hp hq
 have h4:=o_ p.bag p.offer (by have:=hp.nb;omega) hp.bag (by have:=hp.no;omega) hp.offer
 unfold b6
 cases hD : fO p q with
 | false =>
  rw [if_pos rfl]
  rw [hD] at h3
  refine aF Tryz.func226 51 ?_
  exact fD0
 | true =>
  rw [if_neg (by simp)]
  rw [hD] at h3
  by_cases hw : ¬ p.wth = q.id
  ·rw [if_pos hw]
   refine aF Tryz.func226 51 ?_
   exact fD0
  ·rw [if_neg hw]
   generalize dY p.bag p.offer = A at *
   obtain ⟨A,x⟩:=A
   dsimp only at *
   by_cases hx : ¬ x = 0
   ·rw [if_pos hx]
    refine aF Tryz.func226 51 ?_
    exact fD0
   ·rw [if_neg hx]
    refine aF Tryz.func226 51 ?_
    conv=>whnf
    repeat' (first|exact trivial|((first|(refine ⟨fun hb=>?_,fun hb=>?_⟩<;>(try simp only [nrm] at hb)<;>try exact kZ hb)|refine kV ?_)<;>(conv=>whnf))|refine kY ?_ ?_)
    all_goals first|(refine congrArg Value.bool ?_;simp [fC,hb];done)|skip
end Go.Proofs.YtkojlembanldcaaGreat
