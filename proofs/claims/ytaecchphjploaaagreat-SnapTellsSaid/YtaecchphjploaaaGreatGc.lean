/- The engine, third part: drawn regions, contracts, from contracts to the stated form. -/
import Derived.Test.YtaecchphjploaaaGreatGb
import Derived.Still
import Derived.ProofKit
import Derived.HandedShaped
import Derived.Carry
import Derived.OpenShut
set_option linter.unusedSimpArgs false
set_option linter.unusedVariables false
set_option maxRecDepth 100000
set_option maxHeartbeats 16000000
namespace Eng
open Go Go.RowKit
structure Res where
 run : Bool
 c : aD
 ov : Operand → AV
mutual
theorem Fx (k : Nat) : ∀ v : AV,men k v = false → fgt k v = v
 | .top,_=>rfl
 | .tt,_=>rfl
 | .ff,_=>rfl
 | .lit _,_=>rfl
 | .agg cs,h=>by simp only [fgt];rw [gW k cs (by simpa [men] using h)]
 | .tup cs,h=>by simp only [fgt];rw [gW k cs (by simpa [men] using h)]
 | .vec _ _,_=>rfl
 | .emp _,_=>rfl
 | .bl _ _,_=>rfl
 | .own t j o n c,h=>by simp only [men] at h;simp [fgt,h]
 | .ptr j o,h=>by simp only [men] at h;simp [fgt,h]
 | .rptr t j i o,h=>by simp only [men] at h;simp [fgt,h]
 | .vptr _ _ _ _,_=>rfl
 | .mp j,h=>by simp only [men] at h;simp [fgt,h]
 | .clo f a b,h=>by
  simp only [men] at h
  cases ha : b8 k a with
  | true=>rw [ha] at h;cases h
  | false=>rw [ha] at h;simp only [fgt];rw [gW k a ha,gW k b h]
theorem gW (k : Nat) : ∀ cs : List AV,b8 k cs = false → cM k cs = cs
 | [],_=>rfl
 | c :: r,h=>by
  simp only [b8] at h
  cases hc : men k c with
  | true=>rw [hc] at h;cases h
  | false=>rw [hc] at h;simp only [cM];rw [Fx k c hc,gW k r h]
end
theorem Es {k : Nat} {b : Blk} (h : dT k b = false) : gO k b = b:=by
 cases b with
 | box cs=>simp only [gO];rw [gW k cs h]
 | row t l=>rfl
 | mp ks cs=>simp only [gO];rw [gW k cs h]
 | pm _ _ _=>rfl
theorem Aw {m : Nat → Option Blk} {j k : Nat} (h : j ≠ k) (b c : Option Blk) : put (put m j b) k c = put (put m k c) j b:=by
 funext i;simp only [put]
 by_cases h1 : k = i<;>by_cases h2 : j = i<;>simp [h1,h2]
 exact absurd (h2.trans h1.symm) h
theorem CA (us : List (Nat × Option Blk)) {k : Nat} (c : Option Blk) (h : ∀ p ∈ us,p.1 ≠ k) (m : Nat → Option Blk) : aX us (put m k c) = put (aX us m) k c:=by
 induction us generalizing m with
 | nil=>rfl
 | cons p r ih =>
  obtain ⟨j,b⟩:=p
  simp only [aX]
  rw [← ih (fun q hq=>h q (by simp [hq]))]
  rw [Aw (fun e=>h (j,b) (by simp) e.symm)]
theorem Ax (us vs : List (Nat × Option Blk)) (h : ∀ p ∈ us,∀ q ∈ vs,p.1 ≠ q.1) (m : Nat → Option Blk) : aX us (aX vs m) = aX vs (aX us m):=by
 induction vs generalizing m with
 | nil=>rfl
 | cons q r ih =>
  obtain ⟨k,c⟩:=q
  simp only [aX]
  rw [ih (fun p hp q hq=>h p hp q (by simp [hq])),CA us c (fun p hp=>h p hp (k,c) (by simp))]
theorem ug (us : List (Nat × Option Blk)) {k : Nat} (h : ∀ p ∈ us,p.1 ≠ k) (m : Nat → Option Blk) : aX us m k = m k:=by
 induction us generalizing m with
 | nil=>rfl
 | cons p r ih =>
  obtain ⟨j,b⟩:=p
  simp only [aX]
  rw [ih (fun q hq=>h q (by simp [hq])),cU m b (h (j,b) (by simp))]
theorem sF {f : List AV} {d : Option Nat} {v : AV} {x : Operand} (h : ∀ e,d = some e → x ≠ .tmp e) : aval (fput f d v) x = aval f x:=by
 cases d with
 | none=>rfl
 | some d =>
  cases x with
  | tmp t =>
   have hne : d ≠ t:=fun e=>h d rfl (by rw [e])
   simp [aval,fput,List.getElem?_set_ne hne]
  | const v=>cases v<;>first|rfl|(rename_i b;cases b<;>rfl)
  | global k=>rfl
  | func k=>rfl
def lk (ops : Array Oper) (o : Oper) : List Operand:=
 o.op.operands.toList ++ (match o.guard with
  | some (j,_)=>(((ops[j]?).bind (·.dst)).toList).map .tmp
  | none=>[])
theorem uh {ops : Array Oper} {o : Oper} {d : Tmp} (h : d ∉ o.looksAt ops) : ∀ x ∈ lk ops o,x ≠ .tmp d:=by
 rintro x hx rfl
 apply h
 unfold lk at hx
 unfold Oper.looksAt
 rcases List.mem_append.1 hx with hx|hx
 ·exact List.mem_append_left _ (List.mem_filterMap.2 ⟨.tmp d,by simpa using hx,rfl⟩)
 ·refine List.mem_append_right _ ?_
  cases hg : o.guard with
  | none=>rw [hg] at hx;simp at hx
  | some p =>
   rw [hg] at hx
   simp only [List.mem_map] at hx ⊢
   obtain ⟨y,hy,hy2⟩:=hx
   cases hy2;exact hy
def Ref (a b : AV) : Prop:=a = b ∨ (a = .lit (.bool true) ∧ b = .tt) ∨ (a = .lit (.bool false) ∧ b = .ff)
theorem Ref.refl (a : AV) : Ref a a:=.inl rfl
theorem Ref.le {a b : AV} (h : Ref a b) : Le a b:=by
 rcases h with rfl|⟨rfl,rfl⟩|⟨rfl,rfl⟩
 ·exact Le.refl _
 ·intro w g lim x hx;rw [aN hx];exact .tt
 ·intro w g lim x hx;rw [aN hx];exact .ff
def AOv (P : Program) (base : Nat) (o : Oper) (ov : Operand → AV) (c : aD) : Prop:=
 ∀ (f : List AV) (m : Nat → Option Blk),(∀ x ∈ o.op.operands.toList,Le (aval f x) (ov x)) → (∀ p ∈ c.rd,m p.1 = some p.2) → Ok P base o f m (c.fr f o.dst) (c.me m)
def iq (ops : Array Oper) (o : Oper) (r : Res) : Prop:=
 match o.guard with
 | none=>r.run = true
 | some (j,want)=>∃ oj d,ops[j]? = some oj ∧ oj.dst = some d ∧ (r.ov (.tmp d) = .tt ∧ r.run = want ∨ r.ov (.tmp d) = .ff ∧ r.run = (!want) ∨ (∃ ys,r.ov (.tmp d) = .lit (.tuple ys)) ∧ r.run = false)
structure Fy (P : Program) (base : Nat) (ops : Array Oper) (o : Oper) (r : Res) : Prop where
 want : iq ops o r
 yes : r.run = true → AOv P base o r.ov r.c
 no : r.run = false → r.c = vA und
structure Pre (ops : Array Oper) (o : Oper) (r : Res) (f : List AV) (m : Nat → Option Blk) : Prop where
 ov : ∀ x ∈ lk ops o,Ref (aval f x) (r.ov x)
 rd : ∀ p ∈ r.c.rd,m p.1 = some p.2
structure Ids (r s : Res) : Prop where
 uu : ∀ p ∈ r.c.up,∀ q ∈ s.c.up,p.1 ≠ q.1
 ur : ∀ p ∈ r.c.up,∀ q ∈ s.c.rd,p.1 ≠ q.1
 ru : ∀ p ∈ s.c.up,∀ q ∈ r.c.rd,p.1 ≠ q.1
theorem Ay {f : List AV} {d e : Option Nat} {v u : AV} (h : ∀ x,d = some x → e ≠ some x) : fput (fput f d v) e u = fput (fput f e u) d v:=by
 cases d with
 | none=>rfl
 | some d =>
  cases e with
  | none=>rfl
  | some e =>
   simp only [fput]
   exact List.set_comm _ _ (fun he=>h d rfl (by rw [he]))
section
variable {P : Program} {base : Nat} {ops : Array Oper} {rs : Nat → Res} {md : Region.Mode}
def aOp (ops : Array Oper) (rs : Nat → Res) (i : Nat) (K : List AV → (Nat → Option Blk) → Prop) (f : List AV) (m : Nat → Option Blk) : Prop:=
 match ops[i]? with
 | none=>K f m
 | some o=>Pre ops o (rs i) f m ∧ K (fput f o.dst (rs i).c.v) (aX (rs i).c.up m)
theorem CB {i : Nat} {f : List AV} {m : Nat → Option Blk} {K K' : List AV → (Nat → Option Blk) → Prop} (h : ∀ f m,K f m → K' f m) (hh : aOp ops rs i K f m) : aOp ops rs i K' f m:=by
 unfold aOp at *
 split
 ·rename_i ho;rw [ho] at hh;exact h _ _ hh
 ·rename_i o ho;rw [ho] at hh;exact ⟨hh.1,h _ _ hh.2⟩
def ui (ops : Array Oper) (rs : Nat → Res) (md : Region.Mode) (Q : List AV → (Nat → Option Blk) → Prop) : Nat → Array Bool → List AV → (Nat → Option Blk) → Prop
 | 0,listed,f,m=>Region.ready md ops listed = [] ∧ Q f m
 | fuel + 1,listed,f,m =>
  (Region.ready md ops listed = [] → Q f m) ∧
  ∀ i ∈ Region.ready md ops listed,aOp ops rs i (ui ops rs md Q fuel (listed.setIfInBounds i true)) f m
theorem Et {i j : Nat} {oi oj : Oper} (hj : ops[j]? = some oj) (hap : oi.apart ops oj = true) (hid : Ids (rs i) (rs j))
  {K : List AV → (Nat → Option Blk) → Prop} {f : List AV} {m : Nat → Option Blk} (hy : Pre ops oi (rs i) f m)
  (h : aOp ops rs j K (fput f oi.dst (rs i).c.v) (aX (rs i).c.up m)) :
  aOp ops rs j (fun f' m'=>Pre ops oi (rs i) f' m' ∧ K (fput f' oi.dst (rs i).c.v) (aX (rs i).c.up m')) f m:=by
 obtain ⟨h1,h2,h3⟩:=Oper.apart_spec hap
 unfold aOp at *
 simp only [hj] at *
 obtain ⟨hp,hK⟩:=h
 have e1 : ∀ x ∈ lk ops oj,aval (fput f oi.dst (rs i).c.v) x = aval f x:=fun x hx=>sF fun e he=>uh (h1 e he) x hx
 have e2 : ∀ x ∈ lk ops oi,aval (fput f oj.dst (rs j).c.v) x = aval f x:=fun x hx=>sF fun e he=>uh (h3 e he) x hx
 refine ⟨⟨fun x hx=>by rw [← e1 x hx];exact hp.ov x hx,fun p hpm=>?_⟩,⟨fun x hx=>by rw [e2 x hx];exact hy.ov x hx,fun p hpm=>?_⟩,?_⟩
 ·rw [← ug (rs i).c.up (fun q hq=>hid.ur q hq p hpm) m];exact hp.rd p hpm
 ·rw [ug (rs j).c.up (fun q hq=>hid.ru q hq p hpm) m];exact hy.rd p hpm
 ·rw [Ay (fun x hx=>?_),Ax _ _ hid.uu]
  ·exact hK
  ·intro he;exact h2 x he hx
def ir (md : Region.Mode) (ops : Array Oper) (listed : Array Bool) : Prop:=
 ∀ i o,ops[i]? = some o → listed.getD i true = true → ∀ e ∈ o.after,Region.binds md e = true → listed.getD e.on false = true
theorem ir.set {listed : Array Bool} {i : Nat} (h : ir md ops listed) (hr : i ∈ Region.ready md ops listed) : ir md ops (listed.setIfInBounds i true):=by
 intro j o ho hl e he hb
 by_cases hij : i = j
 ·subst hij
  obtain ⟨_,o',ho',hall⟩:=mem_ready.1 hr
  rw [ho] at ho';cases ho'
  exact getD_set_true (hall e he hb)
 ·rw [getD_set_ne true hij] at hl
  exact getD_set_true (h j o ho hl e he hb)
inductive Dep (md : Region.Mode) (ops : Array Oper) : Nat → Nat → Prop where
 | one {i j : Nat} {o : Oper} {e : _} (ho : ops[i]? = some o) (he : e ∈ o.after) (hb : Region.binds md e = true) (hj : e.on = j) : Dep md ops i j
 | far {i j : Nat} {o : Oper} {e : _} (ho : ops[i]? = some o) (he : e ∈ o.after) (hb : Region.binds md e = true) (h : Dep md ops e.on j) : Dep md ops i j
theorem sG {listed : Array Bool} {i : Nat} (h : listed.getD i false = true) : listed.getD i true = true:=by
 rcases Nat.lt_or_ge i listed.size with h'|h'
 ·simp [h'] at h ⊢;exact h
 ·simp [Array.getElem?_eq_none h'] at h
theorem Dep.listed {listed : Array Bool} (hc : ir md ops listed) {i j : Nat} (h : Dep md ops i j) : (i ∈ Region.ready md ops listed ∨ listed.getD i true = true) → listed.getD j false = true:=by
 have step : ∀ {i o e},ops[i]? = some o → e ∈ o.after → Region.binds md e = true → (i ∈ Region.ready md ops listed ∨ listed.getD i true = true) → listed.getD e.on false = true:=by
  intro i o e ho he hb h
  rcases h with h|h
  ·obtain ⟨_,o',ho',hall⟩:=mem_ready.1 h
   rw [ho] at ho';cases ho'
   exact hall e he hb
  ·exact hc i o ho h e he hb
 induction h with
 | one ho he hb hj=>intro h;subst hj;exact step ho he hb h
 | far ho he hb _ ih=>intro h;exact ih (.inr (sG (step ho he hb h)))
theorem pK {listed : Array Bool} {i : Nat} (h : listed.getD i true = false) (h' : listed.getD i false = true) : False:=by
 rw [sG h'] at h;cases h
theorem yD {Q : List AV → (Nat → Option Blk) → Prop} {i : Nat} {oi : Oper} (hi : ops[i]? = some oi) :
  ∀ (fuel : Nat) (listed : Array Bool) (f : List AV) (m : Nat → Option Blk),ir md ops listed →
   (∀ j oj,ops[j]? = some oj → j ≠ i → listed.getD j true = false → (∀ e ∈ oj.after,Region.binds md e = true → e.on ≠ i) → oi.apart ops oj = true ∧ (Dep md ops j i ∨ Ids (rs i) (rs j))) →
   i ∈ Region.ready md ops listed → Pre ops oi (rs i) f m →
   ui ops rs md Q fuel (listed.setIfInBounds i true) (fput f oi.dst (rs i).c.v) (aX (rs i).c.up m) → ui ops rs md Q (fuel + 1) listed f m:=by
 have one : ∀ {K : List AV → (Nat → Option Blk) → Prop} {f m},Pre ops oi (rs i) f m → K (fput f oi.dst (rs i).c.v) (aX (rs i).c.up m) → aOp ops rs i K f m:=by
  intro K f m h1 h2;unfold aOp;simp only [hi];exact ⟨h1,h2⟩
 intro fuel
 induction fuel with
 | zero =>
  intro listed f m _ _ hr hy H
  refine ⟨fun h=>(by rw [h] at hr;cases hr),fun j hj=>?_⟩
  by_cases hji : j = i
  ·subst hji;exact one hy H
  ·have:=ready_mono hj hji
   rw [H.1] at this
   cases this
 | succ fuel ih =>
  intro listed f m hcl hfree hr hy H
  refine ⟨fun h=>(by rw [h] at hr;cases hr),fun j hj=>?_⟩
  by_cases hji : j = i
  ·subst hji;exact one hy H
  ·have h1:=H.2 j (ready_mono hj hji)
   obtain ⟨hjun,oj,hoj,hall⟩:=mem_ready.1 hj
   have hiun:=(mem_ready.1 hr).1
   have hnot : ∀ e ∈ oj.after,Region.binds md e = true → e.on ≠ i:=fun e he hb heq=>by
    have h1:=hall e he hb
    rw [heq] at h1
    exact pK hiun h1
   obtain ⟨hap,hid⟩:=hfree j oj hoj hji hjun hnot
   have hid : Ids (rs i) (rs j):=by
    rcases hid with hd|hid
    ·exact (pK hiun (hd.listed hcl (.inl hj))).elim
    ·exact hid
   have h2:=Et hoj hap hid hy h1
   have hfree' : ∀ k ok,ops[k]? = some ok → k ≠ i → (listed.setIfInBounds j true).getD k true = false →
     (∀ e ∈ ok.after,Region.binds md e = true → e.on ≠ i) → oi.apart ops ok = true ∧ (Dep md ops k i ∨ Ids (rs i) (rs k)):=fun k ok hk hki hun hno=>by
    refine hfree k ok hk hki ?_ hno
    by_cases hjk : j = k
    ·subst hjk;exact hjun
    ·rw [getD_set_ne true hjk] at hun;exact hun
   refine CB (fun f' m' h3=>ih (listed.setIfInBounds j true) f' m' (hcl.set hj) hfree' (ready_mono hr (Ne.symm hji)) h3.1 ?_) h2
   rw [Array.setIfInBounds_comm _ _ hji]
   exact h3.2
def CC (ops : Array Oper) (rs : Nat → Res) (Q : List AV → (Nat → Option Blk) → Prop) : List Oper → Nat → List AV → (Nat → Option Blk) → Prop
 | [],_,f,m=>Q f m
 | o :: l,k,f,m=>Pre ops o (rs k) f m ∧ CC ops rs Q l (k + 1) (fput f o.dst (rs k).c.v) (aX (rs k).c.up m)
theorem uj {Q : List AV → (Nat → Option Blk) → Prop} (hid : ∀ i j oi oj,i < j → ops[i]? = some oi → ops[j]? = some oj → Dep md ops j i ∨ Ids (rs i) (rs j)) :
  ∀ (l : List Oper) (k : Nat) (listed : Array Bool) (f : List AV) (m : Nat → Option Blk),(∀ j,l[j]? = ops[k + j]?) → ir md ops listed → (∀ j,j < k → listed.getD j true = true) →
   Region.lexFrom md ops l.length k listed = true → CC ops rs Q l k f m → ui ops rs md Q l.length listed f m
 | [],_,_,_,_,_,_,_,hB,h=>⟨by simpa [Region.lexFrom] using hB,h⟩
 | o :: l,k,listed,f,m,hl,hcl,hdone,hB,h=>by
  have h0 : ops[k]? = some o:=by simpa using (hl 0).symm
  simp only [List.length_cons,Region.lexFrom,Bool.and_eq_true] at hB
  obtain ⟨⟨hr,hf⟩,hB'⟩:=hB
  have hr' : k ∈ Region.ready md ops listed:=by simpa using hr
  refine yD h0 l.length listed f m hcl (fun j oj hj hne hun hno=>⟨Region.free_spec h0 hf j oj hj hne hun hno,?_⟩) hr' h.1
   (uj hid l (k + 1) _ _ _ (fun j=>by have:=hl (j + 1);simpa [Nat.add_assoc,Nat.add_comm 1 j] using this) (hcl.set hr') (fun j hj=>?_) hB' h.2)
  ·rcases Nat.lt_or_ge k j with hkj|hkj
   ·exact hid k j o oj hkj h0 hj
   ·have:=hdone j (by omega)
    rw [this] at hun;cases hun
  ·by_cases hjk : k = j
   ·subst hjk
    have h1:=(mem_ready.1 hr').1
    rcases Nat.lt_or_ge k listed.size with h'|h'
    ·simp [h']
    ·simp [Array.getElem?_eq_none h'] at h1
   ·rw [getD_set_ne true hjk];exact hdone j (by omega)
def Inv (ops : Array Oper) (rs : Nat → Res) (listed : Array Bool) (f : List AV) (m : Nat → Option Blk) : Prop:=
 ∀ j o,ops[j]? = some o → listed.getD j true = false → ∀ k ∈ (rs j).c.fg,b8 k f = false ∧ ∀ i b,m i = some b → dT k b = false
def tX (r s : Res) : Prop:=∀ k ∈ s.c.fg,men k r.c.v = false ∧ ∀ p ∈ r.c.up,∀ b,p.2 = some b → dT k b = false
theorem uk {k : Nat} {v : AV} : ∀ {f : List AV} {d : Nat},b8 k f = false → men k v = false → b8 k (f.set d v) = false
 | [],_,h,_=>by simpa using h
 | a :: r,0,h,hv=>by simp only [b8] at h;simp only [List.set_cons_zero,b8,hv];cases ha : men k a<;>simp_all
 | a :: r,d + 1,h,hv=>by
  simp only [b8] at h
  simp only [List.set_cons_succ,b8]
  cases ha : men k a with
  | true=>simp [ha] at h
  | false=>simp [ha] at h ⊢;exact uk h hv
theorem CD {p : Blk → Prop} (us : List (Nat × Option Blk)) : ∀ (m : Nat → Option Blk),(∀ i b,m i = some b → p b) → (∀ q ∈ us,∀ b,q.2 = some b → p b) → ∀ i b,aX us m i = some b → p b:=by
 induction us with
 | nil=>intro m h _;exact h
 | cons q r ih =>
  intro m h hq
  obtain ⟨k,b⟩:=q
  refine ih _ (fun i b' hb=>?_) (fun q hq'=>hq q (by simp [hq']))
  unfold put at hb
  split at hb
  ·exact hq (k,b) (by simp) b' hb
  ·exact h i b' hb
theorem CE {ks : List Nat} {f : List AV} (h : ∀ k ∈ ks,b8 k f = false) : eJ ks f = f:=by
 induction ks with
 | nil=>rfl
 | cons k r ih=>simp only [eJ];rw [gW k f (h k (by simp))];exact ih fun j hj=>h j (by simp [hj])
theorem CF {ks : List Nat} {m : Nat → Option Blk} (h : ∀ k ∈ ks,∀ i b,m i = some b → dT k b = false) : cH ks m = m:=by
 induction ks with
 | nil=>rfl
 | cons k r ih =>
  simp only [cH]
  have : ci k m = m:=by
   funext i;simp only [ci]
   cases hm : m i with
   | none=>rfl
   | some b=>simp [Es (h k (by simp) i b hm)]
  rw [this];exact ih fun j hj=>h j (by simp [hj])
theorem Az {o : Oper} {r : Res} {f : List AV} {m : Nat → Option Blk} {w : World} {g : G} {lim : Nat} {a : Act} (hw : iq ops o r) (hp : Pre ops o r f m) (hs : Sim w g lim f m a) :
  Region.wanted o (yielded ops a.tmps) = r.run:=by
 unfold iq at hw
 cases hg : o.guard with
 | none=>rw [hg] at hw;simp [Region.wanted,hg,hw]
 | some p =>
  obtain ⟨j,want⟩:=p
  rw [hg] at hw
  obtain ⟨oj,d,hj,hd,hv⟩:=hw
  have hmem : Operand.tmp d ∈ lk ops o:=by
   unfold lk
   refine List.mem_append_right _ ?_
   simp [hg,hj,hd]
  have hle:=(hp.ov _ hmem).le w g lim _ (aR hs (.tmp d))
  have key : ∀ b : Bool,a.eval (.tmp d) = .bool b → Region.wanted o (yielded ops a.tmps) = (b == want):=by
   intro b hb
   have hx : a.tmps[d]? = some (.bool b):=by
    simp only [Act.eval,Array.getD] at hb
    split at hb
    ·rename_i h;simp at hb;rw [Array.getElem?_eq_getElem h,hb]
    ·cases hb
   have hy : yielded ops a.tmps j = some b:=by
    unfold yielded
    simp [hj,hd,hx]
   simp only [Region.wanted,hg,hy]
   cases b<;>cases want<;>rfl
  rcases hv with ⟨h1,h2⟩|⟨h1,h2⟩|⟨⟨ys,h1⟩,h2⟩
  ·rw [h1] at hle
   rw [key true (by generalize hE : a.eval (.tmp d) = E at hle;cases hle;rfl),h2];cases want<;>rfl
  ·rw [h1] at hle
   rw [key false (by generalize hE : a.eval (.tmp d) = E at hle;cases hle;rfl),h2];cases want<;>rfl
  ·rw [h1] at hle
   have hb:=aN hle
   have hy : yielded ops a.tmps j = none:=by
    unfold yielded
    simp only [Act.eval,Array.getD] at hb
    split at hb
    ·rename_i h;simp at hb;simp [hj,hd,Array.getElem?_eq_getElem h,hb]
    ·rename_i h;simp [hj,hd,Array.getElem?_eq_none (Nat.le_of_not_lt h)]
   simp only [Region.wanted,hg,hy,h2]
   rfl
theorem Eu (hgood : ∀ i o,ops[i]? = some o → Fy P base ops o (rs i)) (hcln : ∀ i j oi oj,i ≠ j → ops[i]? = some oi → ops[j]? = some oj → Dep md ops i j ∨ tX (rs i) (rs j))
  {Q : List AV → (Nat → Option Blk) → Prop} {Q' : Exit → Act → World → Prop} :
  ∀ (fuel : Nat) (listed : Array Bool) (f : List AV) (m : Nat → Option Blk),ir md ops listed → Inv ops rs listed f m → ui ops rs md Q fuel listed f m →
   ∀ (w : World) (g : G) (a : Act),Sim w g (base + L) f m a →
   (∀ f' m' w' g' a',Q f' m' → Sim w' g' (base + L) f' m' a' → Tr g w w' → LeG base g g' → Q' .normal a' w') → wpAny P md ops Q' fuel listed a w:=by
 intro fuel
 induction fuel with
 | zero=>intro listed f m _ _ h w g a hs hQ;exact ⟨h.1,hQ f m w g a h.2 hs (Tr.refl g w) (LeG.refl base g)⟩
 | succ fuel ih =>
  intro listed f m hcl hinv h w g a hs hQ
  refine ⟨fun h0=>hQ f m w g a (h.1 h0) hs (Tr.refl g w) (LeG.refl base g),fun i hi=>?_⟩
  have h1:=h.2 i hi
  obtain ⟨hiun,o,ho,_⟩:=mem_ready.1 hi
  unfold aOp at h1
  unfold wpOp
  simp only [ho] at h1 ⊢
  obtain ⟨hp,hK⟩:=h1
  have hg:=hgood i o ho
  have hinv' : Inv ops rs (listed.setIfInBounds i true) (fput f o.dst (rs i).c.v) (aX (rs i).c.up m):=by
   intro j oj hj hun k hk
   have hij : i ≠ j:=by
    rintro rfl
    rcases Nat.lt_or_ge i listed.size with h'|h'
    ·simp [h'] at hun
    ·simp [Array.getElem?_eq_none h'] at hiun
   rw [getD_set_ne true hij] at hun
   obtain ⟨i1,i2⟩:=hinv j oj hj hun k hk
   have hc : tX (rs i) (rs j):=by
    rcases hcln i j o oj hij ho hj with hd|hc
    ·exact (pK hun (hd.listed hcl (.inl hi))).elim
    ·exact hc
   refine ⟨?_,CD _ _ i2 (hc k hk).2⟩
   cases o.dst with
   | none=>exact i1
   | some d=>exact uk i1 (hc k hk).1
  rw [Az hg.want hp hs]
  cases hrun : (rs i).run with
  | true =>
   simp only [if_true]
   refine .inl (hg.yes hrun f m (fun x hx=>(hp.ov x (List.mem_append_left _ hx)).le) hp.rd w g a hs _ _ fun w' g' a' hs' ht hl=>?_)
   have e1 : (rs i).c.fr f o.dst = fput f o.dst (rs i).c.v:=by
    unfold aD.fr;rw [CE fun k hk=>(hinv i o ho hiun k hk).1]
   have e2 : (rs i).c.me m = aX (rs i).c.up m:=by
    unfold aD.me;rw [CF fun k hk=>(hinv i o ho hiun k hk).2]
   rw [e1,e2] at hs'
   exact ih _ _ _ (hcl.set hi) hinv' hK w' g' a' hs' fun f2 m2 w2 g2 a2 q1 q2 q3 q4=>hQ f2 m2 w2 g2 a2 q1 q2 (ht.trans hl q3) (hl.trans q4)
  | false =>
   simp only [Bool.false_eq_true,if_false]
   rw [hg.no hrun] at hK hinv'
   exact ih _ _ _ (hcl.set hi) hinv' hK w g _ (hs.put (.lit _) o.dst) hQ
end
open Go Go.RowKit
def oI {α : Type} (p : Nat → α → Bool) : Nat → List α → Bool
 | _,[]=>true
 | i,a :: l=>match p i a with|true=>oI p (i + 1) l|false=>false
theorem kN {α : Type} {p : Nat → α → Bool} : ∀ {l : List α} {k : Nat},oI p k l = true → ∀ {j : Nat} {a : α},l[j]? = some a → p (k + j) a = true
 | [],_,_,_,_,hj=>by simp at hj
 | a :: l,k,h,j,b,hj=>by
  simp only [oI] at h
  cases hp : p k a with
  | false=>rw [hp] at h;cases h
  | true =>
   rw [hp] at h
   cases j with
   | zero=>simp at hj;subst hj;exact hp
   | succ j =>
    have:=kN (l:=l) h (j:=j) (a:=b) (by simpa using hj)
    rw [← this];congr 1;omega
def jV {α : Type} (p : α → Bool) : List α → Bool
 | []=>true
 | a :: l=>match p a with|true=>jV p l|false=>false
theorem eB {α : Type} {p : α → Bool} : ∀ {l : List α},jV p l = true → ∀ a ∈ l,p a = true
 | [],_,_,ha=>by cases ha
 | a :: l,h,b,hb=>by
  simp only [jV] at h
  cases hp : p a with
  | false=>rw [hp] at h;cases h
  | true =>
   rw [hp] at h
   rcases List.mem_cons.1 hb with rfl|hb
   ·exact hp
   ·exact eB h b hb
def AA (r s : Res) : Bool:=jV (fun k=>match men k r.c.v with|true=>false|false=>jV (fun p=>match p.2 with|none=>true|some b=>!dT k b) r.c.up) s.c.fg
theorem AB {r s : Res} (h : AA r s = true) : tX r s:=by
 intro k hk
 have h1:=eB h k hk
 cases hm : men k r.c.v with
 | true=>rw [hm] at h1;cases h1
 | false =>
  rw [hm] at h1
  refine ⟨rfl,fun p hp b hb=>?_⟩
  have h2:=eB h1 p hp
  simp only [hb] at h2
  simpa using h2
def neB (a b : Nat) : Bool:=match Nat.beq a b with|true=>false|false=>true
theorem ul {a b : Nat} (h : neB a b = true) : a ≠ b:=by
 unfold neB at h
 split at h
 ·cases h
 ·rename_i hb;exact nbf.1 hb
def CG (r s : Res) : Bool:=
 match jV (fun (p : Nat × Option Blk)=>match jV (fun (q : Nat × Option Blk)=>neB p.1 q.1) s.c.up with|true=>jV (fun (q : Nat × Blk)=>neB p.1 q.1) s.c.rd|false=>false) r.c.up with
 | true=>jV (fun (p : Nat × Option Blk)=>jV (fun (q : Nat × Blk)=>neB p.1 q.1) r.c.rd) s.c.up
 | false=>false
theorem Ev {r s : Res} (h : CG r s = true) : Ids r s:=by
 unfold CG at h
 split at h
 ·rename_i h1
  have key : ∀ p ∈ r.c.up,(∀ q ∈ s.c.up,p.1 ≠ q.1) ∧ ∀ q ∈ s.c.rd,p.1 ≠ q.1:=by
   intro p hp
   have h2:=eB h1 p hp
   split at h2
   ·rename_i h3;exact ⟨fun q hq=>ul (eB h3 q hq),fun q hq=>ul (eB h2 q hq)⟩
   ·cases h2
  exact ⟨fun p hp=>(key p hp).1,fun p hp=>(key p hp).2,fun p hp q hq=>ul (eB (eB h p hp) q hq)⟩
 ·cases h
def jt : List Nat → Nat → Nat
 | [],_=>0
 | a :: _,0=>a
 | _ :: r,n + 1=>jt r n
def kO (md : Region.Mode) (acc : List Nat) : List Edge → Nat
 | []=>0
 | e :: l=>match Region.binds md e with
  | true=>Nat.lor (Nat.lor (2 ^ e.on) (jt acc e.on)) (kO md acc l)
  | false=>kO md acc l
def tY (md : Region.Mode) : List Oper → List Nat → List Nat
 | [],acc=>acc
 | o :: l,acc=>tY md l (acc ++ [kO md acc o.after.toList])
theorem xB (l : List Nat) (n : Nat) : jt l n = (l[n]?).getD 0:=by
 induction l generalizing n with
 | nil=>rfl
 | cons a r ih=>cases n<;>simp [jt,ih]
theorem pL {md : Region.Mode} {ops : Array Oper} {acc : List Nat} (hacc : ∀ i j,(jt acc i).testBit j = true → Dep md ops i j) {k : Nat} {o : Oper} (ho : ops[k]? = some o) :
  ∀ (l : List Edge),(∀ e ∈ l,e ∈ o.after) → ∀ j,(kO md acc l).testBit j = true → Dep md ops k j
 | [],_,j,h=>by simp [kO] at h
 | e :: l,hl,j,h=>by
  simp only [kO] at h
  split at h
  ·rename_i hb
   have h : (((2 ^ e.on) ||| (jt acc e.on)) ||| (kO md acc l)).testBit j = true:=h
   rw [Nat.testBit_or,Nat.testBit_or,Nat.testBit_two_pow] at h
   simp only [Bool.or_eq_true,decide_eq_true_eq] at h
   rcases h with (h|h)|h
   ·exact .one ho (hl e (by simp)) hb h
   ·exact .far ho (hl e (by simp)) hb (hacc _ _ h)
   ·exact pL hacc ho l (fun e he=>hl e (by simp [he])) j h
  ·exact pL hacc ho l (fun e he=>hl e (by simp [he])) j h
theorem um {md : Region.Mode} {ops : Array Oper} : ∀ (l : List Oper) (acc : List Nat),(∀ j,l[j]? = ops[acc.length + j]?) → (∀ i j,(jt acc i).testBit j = true → Dep md ops i j) →
  ∀ i j,(jt (tY md l acc) i).testBit j = true → Dep md ops i j
 | [],acc,_,hacc=>hacc
 | o :: l,acc,hl,hacc=>by
  refine um l _ (fun j=>?_) ?_
  ·have:=hl (j + 1)
   simpa [Nat.add_assoc,Nat.add_comm 1 j] using this
  ·intro i j h
   rw [xB] at h
   rcases Nat.lt_trichotomy i acc.length with hi|hi|hi
   ·rw [List.getElem?_append_left hi] at h
    exact hacc i j (by rw [xB];exact h)
   ·subst hi
    rw [List.getElem?_append_right (Nat.le_refl _)] at h
    simp at h
    exact pL hacc (by simpa using (hl 0).symm) _ (fun e he=>by simpa using he) j h
   ·rw [List.getElem?_append_right (by omega)] at h
    have : ([kO md acc o.after.toList] : List Nat)[i - acc.length]? = none:=List.getElem?_eq_none (by simp;omega)
    rw [this] at h;simp at h
def orB (a b : Bool) : Bool:=match a with|true=>true|false=>b
theorem qp {a b : Bool} (h : orB a b = true) : a = true ∨ b = true:=by cases a<;>simp_all [orB]
def yE (a b : Bool) : Bool:=match a with|true=>b|false=>false
theorem xC {a b : Bool} (h : yE a b = true) : a = true ∧ b = true:=by cases a<;>simp_all [yE]
def D_ (ms : List Nat) (i : Nat) (r : Res) (j : Nat) (s : Res) : Bool:=
 orB (Nat.beq i j) (yE (orB ((jt ms i).testBit j) (AA r s)) (orB (Nat.ble j i) (orB ((jt ms j).testBit i) (CG r s))))
def un (k : Nat) : Mem → Bool
 | []=>true
 | (_,b) :: r=>match dT k b with|true=>false|false=>un k r
theorem rP {k : Nat} : ∀ {m : Mem},un k m = true → ∀ i b,ak m i = some b → dT k b = false
 | [],_,i,b,hb=>by simp [ak] at hb
 | (j,c) :: r,h,i,b,hb=>by
  simp only [un] at h
  split at h
  ·cases h
  ·rename_i hc
   simp only [ak] at hb
   split at hb
   ·cases hb;exact hc
   ·exact rP h i b hb
def Fz (f : List AV) (m : Mem) (_ : Nat) (r : Res) : Bool:=jV (fun k=>match b8 k f with|true=>false|false=>un k m) r.c.fg
def tZ (md : Region.Mode) (ops : List Oper) (rs : List Res) (f : List AV) (m : Mem) : Bool:=
 yE (oI (Fz f m) 0 rs) (oI (fun i r=>oI (fun j s=>D_ (tY md ops []) i r j s) 0 rs) 0 rs)
def uo (all : List Oper) (f : List AV) (gd : Option (Nat × Bool)) (run skip : List AV → Prop) : Prop:=
 match gd with
 | none=>run f
 | some (j,want)=>match u6 all j with
  | some oj=>match oj.dst with
   | some d=>lU f d fun v=>match v with
    | .tt=>match want with|true=>run f|false=>skip f
    | .ff=>match want with|true=>skip f|false=>run f
    | .lit (.bool b)=>(b = true → jZ f d .tt fun f=>match want with|true=>run f|false=>skip f) ∧
     (b = false → jZ f d .ff fun f=>match want with|true=>skip f|false=>run f)
    | .lit (.tuple _)=>skip f
    | _=>False
   | none=>False
  | none=>False
def Ea (P : Program) (C : cG) (base : Nat) (f : List AV) (m : Mem) (fo : Operand) (args : List Operand) (K : aD → Prop) : Prop:=
 aS f fo fun fv=>oQ fv fun g fs cs=>ko f args fun vs=>pS vs cs fun vc=>pS fs vc fun all=>match C.fn g with
  | true=>∃ c : aD,(∀ p ∈ c.rd,ak m p.1 = some p.2) ∧ fI P base g all c ∧ K c
  | false=>False
def yF (P : Program) (C : cG) (base : Nat) (f : List AV) (m : Mem) (o : Oper) (K : aD → Prop) : Prop:=
 match o.op with
 | .call { callee:=.value fo,args:=args,argTypes:=_ }=>Ea P C base f m fo args.toList K
 | _=>opA P C.toCfg base f m o K
def mz (P : Program) (C : cG) (base : Nat) (all : List Oper) : List Oper → List AV → Mem → (List Res → List AV → Mem → Prop) → Prop
 | [],f,m,K=>K [] f m
 | o :: l,f,m,K=>uo all f o.guard
  (fun f=>yF P C base f m o fun c=>match c with|⟨v,rd,up,fg⟩=>kU up m fun m=>mE f o.dst v fun f'=>mz P C base all l f' m fun rs=>K (⟨true,⟨v,rd,up,fg⟩,aval f⟩ :: rs))
  (fun f=>mE f o.dst und fun f'=>mz P C base all l f' m fun rs=>K (⟨false,vA und,aval f⟩ :: rs))
def gH (f fr : List AV) : Prop:=f.length = fr.length ∧ ∀ i : Nat,Ref ((f[i]?).getD und) ((fr[i]?).getD und)
theorem gH.refl (f : List AV) : gH f f:=⟨rfl,fun _=>Ref.refl _⟩
theorem gH.aval {f fr : List AV} (h : gH f fr) (x : Operand) : Ref (aval f x) (aval fr x):=by
 cases x with
 | tmp t=>exact h.2 t
 | const v=>cases v<;>first|exact Ref.refl _|(rename_i b;cases b<;>exact Ref.refl _)
 | global k=>exact Ref.refl _
 | func k=>exact Ref.refl _
theorem gH.fput {f fr : List AV} (h : gH f fr) (d : Option Nat) (v : AV) : gH (fput f d v) (fput fr d v):=by
 cases d with
 | none=>exact h
 | some d =>
  refine ⟨by simp [Eng.fput,h.1],fun i=>?_⟩
  simp only [Eng.fput,List.getElem?_set]
  by_cases hd : d = i
  ·subst hd
   simp only [if_true,h.1]
   exact Ref.refl _
  ·simp only [if_neg hd];exact h.2 i
theorem gH.set {f fr : List AV} (h : gH f fr) {d : Nat} {b : Bool} (hv : fr[d]? = some (.lit (.bool b))) : gH f (fr.set d (match b with|true=>.tt|false=>.ff)):=by
 refine ⟨by simp [h.1],fun i=>?_⟩
 rw [List.getElem?_set]
 by_cases hd : d = i
 ·subst hd
  have hlt : d < fr.length:=(List.getElem?_eq_some_iff.1 hv).1
  have:=h.2 d
  rw [hv] at this
  simp only [Option.getD_some] at this
  simp only [if_true,hlt,Option.getD_some]
  rcases this with e|⟨_,e⟩|⟨_,e⟩
  ·rw [e];cases b
   ·exact .inr (.inr ⟨rfl,rfl⟩)
   ·exact .inr (.inl ⟨rfl,rfl⟩)
  ·cases e
  ·cases e
 ·simp only [if_neg hd];exact h.2 i
theorem AC {all : List Oper} {fr : List AV} {o : Oper} {run skip : List AV → Prop} (h : uo all fr o.guard run skip) {f : List AV} (hr : gH f fr) :
  ∃ fr',gH f fr' ∧ ((run fr' ∧ ∀ c,iq all.toArray o ⟨true,c,aval fr'⟩) ∨ (skip fr' ∧ ∀ c,iq all.toArray o ⟨false,c,aval fr'⟩)):=by
 unfold uo at h
 cases hg : o.guard with
 | none=>rw [hg] at h;exact ⟨fr,hr,.inl ⟨h,fun c=>by unfold iq;simp [hg]⟩⟩
 | some p =>
  obtain ⟨j,want⟩:=p
  rw [hg] at h
  simp only at h
  rw [xW] at h
  cases hj : all[j]? with
  | none=>rw [hj] at h;exact h.elim
  | some oj =>
  rw [hj] at h
  simp only at h
  cases hd : oj.dst with
  | none=>rw [hd] at h;exact h.elim
  | some d =>
  rw [hd] at h
  simp only at h
  rw [jR] at h
  have hj' : all.toArray[j]? = some oj:=by simpa using hj
  have wo : ∀ (b r : Bool) (f' : List AV) (c : aD),(f'[d]?).getD und = (match b with|true=>.tt|false=>.ff) → r = (b == want) → iq all.toArray o ⟨r,c,aval f'⟩:=by
   intro b r f' c hb hrr
   unfold iq
   simp only [hg]
   refine ⟨oj,d,hj',hd,?_⟩
   simp only [aval,hb,hrr]
   cases b<;>cases want<;>simp
  split at h
  ·rename_i hv
   cases want with
   | true=>exact ⟨fr,hr,.inl ⟨h,fun c=>wo true _ fr c hv rfl⟩⟩
   | false=>exact ⟨fr,hr,.inr ⟨h,fun c=>wo true _ fr c hv rfl⟩⟩
  ·rename_i hv
   cases want with
   | true=>exact ⟨fr,hr,.inr ⟨h,fun c=>wo false _ fr c hv rfl⟩⟩
   | false=>exact ⟨fr,hr,.inl ⟨h,fun c=>wo false _ fr c hv rfl⟩⟩
  ·rename_i b hv
   rw [gZ,gZ] at h
   have hlt : fr[d]? = some (.lit (.bool b)):=by
    cases hf : fr[d]? with
    | none=>rw [hf] at hv;cases hv
    | some x=>rw [hf] at hv;simp at hv;rw [hv]
   have hl : d < fr.length:=(List.getElem?_eq_some_iff.1 hlt).1
   cases b with
   | true =>
    have h:=h.1 rfl
    refine ⟨_,hr.set hlt,?_⟩
    have e : ((fr.set d AV.tt)[d]?).getD und = .tt:=by simp [hl]
    cases want with
    | true=>exact .inl ⟨h,fun c=>wo true _ _ c e rfl⟩
    | false=>exact .inr ⟨h,fun c=>wo true _ _ c e rfl⟩
   | false =>
    have h:=h.2 rfl
    refine ⟨_,hr.set hlt,?_⟩
    have e : ((fr.set d AV.ff)[d]?).getD und = .ff:=by simp [hl]
    cases want with
    | true=>exact .inr ⟨h,fun c=>wo false _ _ c e rfl⟩
    | false=>exact .inl ⟨h,fun c=>wo false _ _ c e rfl⟩
  ·rename_i ys hv
   refine ⟨fr,hr,.inr ⟨h,fun c=>?_⟩⟩
   unfold iq
   simp only [hg]
   exact ⟨oj,d,hj',hd,.inr (.inr ⟨⟨ys,hv⟩,by simp⟩)⟩
  ·exact h.elim
theorem CH {P : Program} {C : cG} (hC : cD P C) {base : Nat} {f : List AV} {m : Mem} {o : Oper} {K : aD → Prop} (h : yF P C base f m o K) :
  ∃ c,K c ∧ (∀ p ∈ c.rd,ak m p.1 = some p.2) ∧ AOv P base o (aval f) c:=by
 unfold yF at h
 split at h
 case h_1 fo args ats ho =>
  unfold Ea at h
  rw [aI] at h
  obtain ⟨g,fs,cs,h,hc⟩:=qC h
  rw [lj,oR,oR] at h
  cases hg : C.fn g with
  | false=>rw [hg] at h;exact h.elim
  | true =>
  rw [hg] at h
  obtain ⟨c,hrd,hca,hK⟩:=h
  refine ⟨c,hK,hrd,?_⟩
  intro f' m' hop hrd' w gh a hs N Q hN
  have hops : ∀ x,x = fo ∨ x ∈ args.toList → Le (aval f' x) (aval f x):=by
   intro x hx
   apply hop
   rw [ho]
   rcases hx with rfl|hx
   ·simp [Op.operands,Call.operands]
   ·simp [Op.operands,Call.operands];right;simpa using hx
  refine pT hC (f:=f') ho hg (fun {w gh lim x} hr=>hc (hops fo (.inl rfl) _ _ _ _ hr)) hs N Q fun vs hvs=>?_
  have hvs' : ax w gh (base + L) (fs ++ (args.toList.map (aval f) ++ cs)) vs:=by
   refine ⟨by simpa using hvs.1,fun i x y hx hy=>?_⟩
   by_cases h1 : i < fs.length
   ·exact hvs.2 i x y (by rw [List.getElem?_append_left h1] at hx ⊢;exact hx) hy
   ·rw [List.getElem?_append_right (by omega)] at hx
    by_cases h2 : i - fs.length < args.size
    ·rw [List.getElem?_append_left (by simpa using h2)] at hx
     simp only [List.getElem?_map,Option.map_eq_some_iff] at hx
     obtain ⟨z,hz,rfl⟩:=hx
     refine hops z (.inr (List.mem_of_getElem? hz)) _ _ _ _ (hvs.2 i (aval f' z) y ?_ hy)
     rw [List.getElem?_append_right (by omega),List.getElem?_append_left (by simpa using h2)]
     simp only [List.getElem?_map,hz,Option.map_some]
    ·refine hvs.2 i x y ?_ hy
     rw [List.getElem?_append_right (by omega),List.getElem?_append_right (by simp;omega)]
     rw [List.getElem?_append_right (by simp;omega)] at hx
     simpa using hx
  refine (hca.go m' hrd' w gh vs hs.me hvs').mono fun e w' ⟨x,g',e1,e2,e3,e4,e5,e6⟩=>⟨x,e1,?_⟩
  exact hN w' g' _ ⟨(e6 _ _ hs.fr).put e2 o.dst,(Act.put_df _ _ _).trans hs.df,e3⟩ e4 e5
 case h_2 =>
  obtain ⟨c,hK,hrd,hok⟩:=A4 hC.toCfgOk h
  exact ⟨c,hK,hrd,hok⟩
theorem pM {P : Program} {C : cG} (hC : cD P C) {base : Nat} {all : List Oper} : ∀ (l : List Oper) (k : Nat) (fr : List AV) (m : Mem) (K : List Res → List AV → Mem → Prop),mz P C base all l fr m K →
  ∀ f,gH f fr → ∃ rs fr' m' f',rs.length = l.length ∧ K rs fr' m' ∧ gH f' fr' ∧ (∀ (j : Nat) (o : Oper) (r : Res),l[j]? = some o → rs[j]? = some r → Fy P base all.toArray o r) ∧
   (∀ rs' : Nat → Res,(∀ (j : Nat) (r : Res),rs[j]? = some r → rs' (k + j) = r) → CC all.toArray rs' (fun a b=>a = f' ∧ b = ak m') l k f (ak m))
 | [],_,fr,m,K,h,f,hr=>⟨[],fr,m,f,rfl,h,hr,fun j o r ho=>by simp at ho,fun rs' _=>⟨rfl,rfl⟩⟩
 | o :: l,k,fr,m,K,h,f,hr=>by
  simp only [mz] at h
  obtain ⟨fr1,hr1,hh⟩:=AC h hr
  rcases hh with ⟨h1,hw⟩|⟨h1,hw⟩
  ·obtain ⟨c,hK,hrd,hok⟩:=CH hC h1
   replace hK : kU c.up m fun m=>mE fr1 o.dst c.v fun f'=>mz P C base all l f' m fun rs=>K (⟨true,c,aval fr1⟩ :: rs):=hK
   obtain ⟨m1,hK,hm1⟩:=u5 _ _ _ hK
   rw [j0] at hK
   obtain ⟨rs,fr',m',f',e1,e2,e3,e4,e5⟩:=pM hC l (k + 1) _ m1 _ hK _ (hr1.fput o.dst c.v)
   refine ⟨_,fr',m',f',by simp [e1],e2,e3,?_,?_⟩
   ·intro j o' r ho' hr'
    cases j with
    | zero =>
     simp at ho' hr';subst ho';subst hr'
     exact ⟨hw c,fun _=>hok,fun he=>by cases he⟩
    | succ j=>exact e4 j o' r (by simpa using ho') (by simpa using hr')
   ·intro rs' hrs
    have h0 : rs' k = ⟨true,c,aval fr1⟩:=by simpa using hrs 0 _ rfl
    refine ⟨⟨fun x hx=>?_,fun p hp=>?_⟩,?_⟩
    ·rw [h0];exact hr1.aval x
    ·rw [h0] at hp;exact hrd p hp
    ·rw [h0,← hm1]
     exact e5 rs' fun j r hj=>by rw [← hrs (j + 1) r (by simpa using hj)];congr 1;omega
  ·rw [j0] at h1
   obtain ⟨rs,fr',m',f',e1,e2,e3,e4,e5⟩:=pM hC l (k + 1) _ m _ h1 _ (hr1.fput o.dst und)
   refine ⟨_,fr',m',f',by simp [e1],e2,e3,?_,?_⟩
   ·intro j o' r ho' hr'
    cases j with
    | zero =>
     simp at ho' hr';subst ho';subst hr'
     exact ⟨hw _,(by intro he;cases he),fun _=>rfl⟩
    | succ j=>exact e4 j o' r (by simpa using ho') (by simpa using hr')
   ·intro rs' hrs
    have h0 : rs' k = ⟨false,vA und,aval fr1⟩:=by simpa using hrs 0 _ rfl
    refine ⟨⟨fun x hx=>?_,fun p hp=>?_⟩,?_⟩
    ·rw [h0];exact hr1.aval x
    ·rw [h0] at hp;simp [vA] at hp
    ·rw [h0]
     exact e5 rs' fun j r hj=>by rw [← hrs (j + 1) r (by simpa using hj)];congr 1;omega
theorem oS.of {P : Program} {C : cG} (hC : cD P C) {base : Nat} {ops : Array Oper} {f : List AV} {m : Mem} {K : List AV → Mem → Prop} (hB : Region.lexB .any ops = true)
  (h : mz P C base ops.toList ops.toList f m fun rs fr m'=>tZ .any ops.toList rs f m = true ∧ K fr m') : oS P base ops f m K:=by
 refine ⟨fun id=>⟨fun w g a hs=>?_⟩⟩
 obtain ⟨rs,fr',m',f',e1,⟨hconf,hK⟩,e3,e4,e5⟩:=pM hC ops.toList 0 f m _ h f (gH.refl f)
 obtain ⟨c1,c2⟩:=xC hconf
 let rn : Nat → Res:=fun i=>(rs[i]?).getD ⟨false,vA und,aval f⟩
 have hrn : ∀ (j : Nat) (r : Res),rs[j]? = some r → rn j = r:=fun j r hj=>by simp only [rn,hj,Option.getD_some]
 have hget : ∀ (j : Nat) (o : Oper),ops[j]? = some o → ∃ r,rs[j]? = some r ∧ rn j = r:=fun j o ho=>by
  have hlt : j < rs.length:=by rw [e1];simpa using (Array.getElem?_eq_some_iff.1 ho).1
  exact ⟨rs[j],List.getElem?_eq_getElem hlt,hrn _ _ (List.getElem?_eq_getElem hlt)⟩
 have hdep : ∀ i j,(jt (tY .any ops.toList []) i).testBit j = true → Dep .any ops i j:=
  um ops.toList [] (fun j=>by simp) (fun i j h=>by simp [jt] at h)
 have hpair : ∀ i j oi oj,i ≠ j → ops[i]? = some oi → ops[j]? = some oj → (Dep .any ops i j ∨ tX (rn i) (rn j)) ∧ (j ≤ i ∨ Dep .any ops j i ∨ Ids (rn i) (rn j)):=by
  intro i j oi oj hne hi hj
  obtain ⟨r,hr,er⟩:=hget i oi hi
  obtain ⟨s,hs',es⟩:=hget j oj hj
  have p1:=kN c2 (j:=i) hr
  have p2:=kN p1 (j:=j) hs'
  simp only [Nat.zero_add] at p2
  rw [er,es]
  rcases qp p2 with h|h
  ·exact absurd (nbt.1 h) hne
  obtain ⟨h3,h4⟩:=xC h
  refine ⟨?_,?_⟩
  ·rcases qp h3 with h|h
   ·exact .inl (hdep _ _ h)
   ·exact .inr (AB h)
  ·rcases qp h4 with h|h
   ·exact .inl (Nat.le_of_ble_eq_true h)
   rcases qp h with h|h
   ·exact .inr (.inl (hdep _ _ h))
   ·exact .inr (.inr (Ev h))
 have hB':=hB
 simp only [Region.lexB,Bool.and_eq_true] at hB'
 have hcl : ir .any ops (Array.replicate ops.size false):=by
  intro i o ho hl
  have hlt:=(Array.getElem?_eq_some_iff.1 ho).1
  simp [hlt] at hl
 have hinv : Inv ops rn (Array.replicate ops.size false) f (ak m):=by
  intro j o ho _ k hk
  obtain ⟨r,hr,er⟩:=hget j o ho
  rw [er] at hk
  have p1:=eB (kN c1 (j:=j) hr) k hk
  cases hm : b8 k f with
  | true=>rw [hm] at p1;cases p1
  | false=>rw [hm] at p1;exact ⟨rfl,rP p1⟩
 have hlex:=e5 rn fun j r hj=>by rw [Nat.zero_add];exact hrn j r hj
 simp only [Array.toArray_toList] at hlex e4
 have hany:=uj (md:=.any) (ops:=ops) (rs:=rn) (fun i j oi oj hlt hi hj=>by
  rcases (hpair i j oi oj (by omega) hi hj).2 with h|h
  ·omega
  ·exact h) ops.toList 0 (Array.replicate ops.size false) f (ak m) (by simp) hcl (by simp) (by simpa using hB'.2) hlex
 rw [Array.length_toList] at hany
 refine wp_region_any hC.mixed ?_
 have hs1 : Sim { w with drawn:=w.drawn + 1 } g (base + L) f (ak m) a:=⟨hs.fr.same (fun _ _=>rfl),hs.df,⟨hs.me.al,hs.me.lt,hs.me.nro,hs.me.inj,fun k b h=>(hs.me.blk k b h).mono' ⟨fun _ h=>h,fun _ _=>rfl⟩ (Nat.le_refl _) (fun _=>rfl) (fun k _ _ h=>⟨h,rfl,rfl⟩),hs.me.rolt,hs.me.nof⟩⟩
 have:=Eu (P:=P) (base:=base) (fun i o ho=>by
   obtain ⟨r,hr,er⟩:=hget i o ho
   rw [er];exact e4 i o r (by simpa using ho) hr) (fun i j oi oj hne hi hj=>(hpair i j oi oj hne hi hj).1)
  (Q':=fun e a' w'=>∃ ae f' m' g',e = qD ae ∧ (fun (e : AE) (f' : List AV) (m' : Mem)=>match e with|.normal=>K f' m'|_=>False) ae f' m' ∧ Sim w' g' (base + L) f' (ak m') a' ∧ Tr g w w' ∧ LeG base g g') _ _ _ _ hcl hinv hany _ g a hs1
  (fun f2 m2 w2 g2 a2 hQ hs2 ht hl=>by
   obtain ⟨rfl,rfl⟩:=hQ
   refine ⟨.normal,fr',m',g2,rfl,hK,⟨?_,hs2.df,hs2.me⟩,?_,hl⟩
   ·refine ⟨by rw [← e3.1];exact hs2.fr.1,fun i c x hc hx=>?_⟩
    have:=e3.2 i
    rw [hc] at this
    have hlt : i < f2.length:=by rw [e3.1];exact (List.getElem?_eq_some_iff.1 hc).1
    rw [List.getElem?_eq_getElem hlt] at this
    exact this.le _ _ _ _ (hs2.fr.2 i _ x (List.getElem?_eq_getElem hlt) hx)
   ·exact ⟨ht.os,ht.tape,ht.output,⟨ht.size.1,Nat.le_trans (Nat.le_succ _) ht.size.2⟩,ht.same,ht.others⟩)
 exact this
open Go Go.RowKit
mutual
def bK (ρ : Nat → Nat) : AV → AV
 | .own t k o n c=>.own t (ρ k) o n c
 | .ptr k o=>.ptr (ρ k) o
 | .rptr t k i o=>.rptr t (ρ k) i o
 | .mp k=>.mp (ρ k)
 | .agg cs=>.agg (dc ρ cs)
 | .tup cs=>.tup (dc ρ cs)
 | .clo f a b=>.clo f (dc ρ a) (dc ρ b)
 | v=>v
def dc (ρ : Nat → Nat) : List AV → List AV
 | []=>[]
 | c :: r=>bK ρ c :: dc ρ r
end
def fw (ρ : Nat → Nat) : Blk → Blk
 | .box cs=>.box (dc ρ cs)
 | .row t l=>.row t l
 | .mp ks cs=>.mp ks (dc ρ cs)
 | .pm ik F n=>.pm ik F n
mutual
def bT (p : Nat → Bool) : AV → Bool
 | .own _ k _ _ _=>p k
 | .ptr k _=>p k
 | .rptr _ k _ _=>p k
 | .mp k=>p k
 | .agg cs=>dr p cs
 | .tup cs=>dr p cs
 | .clo _ a b=>match dr p a with|true=>dr p b|false=>false
 | _=>true
def dr (p : Nat → Bool) : List AV → Bool
 | []=>true
 | c :: r=>match bT p c with|true=>dr p r|false=>false
end
theorem gI {p : Nat → Bool} {cs : List AV} (h : dr p cs = true) {i : Nat} {c : AV} (hc : cs[i]? = some c) : bT p c = true:=by
 induction cs generalizing i with
 | nil=>simp at hc
 | cons a r ih =>
  simp only [dr] at h
  cases ha : bT p a with
  | false=>rw [ha] at h;cases h
  | true =>
   rw [ha] at h
   cases i with
   | zero=>simp at hc;subst hc;exact ha
   | succ i=>simp at hc;exact ih h hc
theorem cS (ρ : Nat → Nat) : ∀ cs : List AV,(dc ρ cs).length = cs.length
 | []=>rfl
 | c :: r=>by simp only [dc,List.length_cons];rw [cS ρ r]
theorem gJ {ρ : Nat → Nat} {cs : List AV} {i : Nat} {c : AV} (h : (dc ρ cs)[i]? = some c) : ∃ c',cs[i]? = some c' ∧ c = bK ρ c':=by
 induction cs generalizing i with
 | nil=>simp [dc] at h
 | cons a r ih =>
  simp only [dc] at h
  cases i with
  | zero=>simp at h;exact ⟨a,by simp,h.symm⟩
  | succ i=>simp at h;simpa using ih h
mutual
theorem uq {ρ σ : Nat → Nat} {p : Nat → Bool} (hp : ∀ k,p k = true → σ (ρ k) = k) : ∀ v : AV,bT p v = true → bK σ (bK ρ v) = v
 | .top,_=>rfl
 | .tt,_=>rfl
 | .ff,_=>rfl
 | .emp _,_=>rfl
 | .bl _ _,_=>rfl
 | .lit _,_=>rfl
 | .agg cs,h=>by simp only [bK];rw [gK hp cs (by simpa [bT] using h)]
 | .tup cs,h=>by simp only [bK];rw [gK hp cs (by simpa [bT] using h)]
 | .vec _ _,_=>rfl
 | .own t k o n c,h=>by simp only [bK];rw [hp k (by simpa [bT] using h)]
 | .ptr k o,h=>by simp only [bK];rw [hp k (by simpa [bT] using h)]
 | .rptr t k i o,h=>by simp only [bK];rw [hp k (by simpa [bT] using h)]
 | .mp k,h=>by simp only [bK];rw [hp k (by simpa [bT] using h)]
 | .vptr _ _ _ _,_=>rfl
 | .clo f a b,h=>by
  simp only [bT] at h
  cases ha : dr p a with
  | false=>rw [ha] at h;cases h
  | true=>rw [ha] at h;simp only [bK];rw [gK hp a ha,gK hp b h]
theorem gK {ρ σ : Nat → Nat} {p : Nat → Bool} (hp : ∀ k,p k = true → σ (ρ k) = k) : ∀ cs : List AV,dr p cs = true → dc σ (dc ρ cs) = cs
 | [],_=>rfl
 | c :: r,h=>by
  simp only [dr] at h
  cases hc : bT p c with
  | false=>rw [hc] at h;cases h
  | true=>rw [hc] at h;simp only [dc];rw [uq hp c hc,gK hp r h]
end
mutual
theorem ut {ρ : Nat → Nat} {p q : Nat → Bool} (hp : ∀ k,p k = true → q (ρ k) = true) : ∀ v : AV,bT p v = true → bT q (bK ρ v) = true
 | .top,_=>rfl
 | .tt,_=>rfl
 | .ff,_=>rfl
 | .emp _,_=>rfl
 | .bl _ _,_=>rfl
 | .lit _,_=>rfl
 | .agg cs,h=>by simp only [bK,bT];exact gL hp cs (by simpa [bT] using h)
 | .tup cs,h=>by simp only [bK,bT];exact gL hp cs (by simpa [bT] using h)
 | .vec _ _,_=>rfl
 | .own t k o n c,h=>by simp only [bK,bT];exact hp k (by simpa [bT] using h)
 | .ptr k o,h=>by simp only [bK,bT];exact hp k (by simpa [bT] using h)
 | .rptr t k i o,h=>by simp only [bK,bT];exact hp k (by simpa [bT] using h)
 | .mp k,h=>by simp only [bK,bT];exact hp k (by simpa [bT] using h)
 | .vptr _ _ _ _,_=>rfl
 | .clo f a b,h=>by
  simp only [bT] at h
  cases ha : dr p a with
  | false=>rw [ha] at h;cases h
  | true=>rw [ha] at h;simp only [bK,bT];rw [gL hp a ha];exact gL hp b h
theorem gL {ρ : Nat → Nat} {p q : Nat → Bool} (hp : ∀ k,p k = true → q (ρ k) = true) : ∀ cs : List AV,dr p cs = true → dr q (dc ρ cs) = true
 | [],_=>rfl
 | c :: r,h=>by
  simp only [dr] at h
  cases hc : bT p c with
  | false=>rw [hc] at h;cases h
  | true=>rw [hc] at h;simp only [dc,dr];rw [ut hp c hc];exact gL hp r h
end
theorem nB {t : Ty} {e : El t} {c : AV} (h : c ∈ cells t e) (p : Nat → Bool) : bT p c = true:=by
 cases t<;>simp [cells] at h<;>(repeat' (first|(subst h;rfl)|(rcases h with h|h)))
theorem nC {t : Ty} {e : El t} {c : AV} (h : c ∈ cells t e) (ρ : Nat → Nat) : bK ρ c = c:=by
 cases t<;>simp [cells] at h<;>(repeat' (first|(subst h;rfl)|(rcases h with h|h)))
theorem pN {t : Ty} {l : List (El t)} {i : Nat} {c : AV} (h : (az t l)[i]? = some c) : ∃ e,c ∈ cells t e:=by
 have hm:=List.mem_of_getElem? h
 simp only [az,List.mem_flatMap] at hm
 obtain ⟨e,_,hc⟩:=hm
 exact ⟨e,hc⟩
theorem Rep.ren {w w' : World} {g g' : G} {lim lim' : Nat} {v : AV} {x : Value} {ρ : Nat → Nat} {p : Nat → Bool} (hk : dQ w w' g g')
  (hp : ∀ k,p k = true → (ρ k < lim' ∨ ρ k % 2 = 1) ∧ (g'.al (ρ k) → g.al k ∧ g'.be (ρ k) = g.be k ∧ g'.sz (ρ k) = g.sz k)) (h : Rep w g lim v x) (hn : bT p v = true) : Rep w' g' lim' (bK ρ v) x:=by
 induction h with
 | top x=>exact .top x
 | tt=>exact .tt
 | ff=>exact .ff
 | emp t a=>exact .emp t a
 | bl p q b h1 h2=>exact .bl p q b h1 h2
 | lit v=>exact .lit v
 | agg cs xs hl h ih=>exact .agg _ xs (by rw [cS];exact hl) fun i c x hc hx=>by obtain ⟨c',h1,rfl⟩:=gJ hc;exact ih i c' x h1 hx (gI (by simpa [bT] using hn) h1)
 | tup cs xs hl h ih=>exact .tup _ xs (by rw [cS];exact hl) fun i c x hc hx=>by obtain ⟨c',h1,rfl⟩:=gJ hc;exact ih i c' x h1 hx (gI (by simpa [bT] using hn) h1)
 | vecE t a cap=>exact .vecE t a cap
 | vec t l b o cap xs hc hr hw h ih =>
  refine .vec t l b o cap xs hc (hk.ro b hr) (fun i c hi=>by rw [World.cell?_of_block (w:=w) (hk.same b hr)];exact hw i c hi) fun i c hi=>?_
  obtain ⟨e,he⟩:=pN hi
  have:=ih i c hi (nB he p)
  rwa [nC he] at this
 | own t k off len b cap c hkl hc hcc h =>
  obtain ⟨h1,h2⟩:=hp k (by simpa [bT] using hn)
  exact .own t _ off len b cap c h1 hc hcc fun ha=>by obtain ⟨e1,e2,e3⟩:=h2 ha;rw [e2,e3];exact h e1
 | ownE t k off c ad hkl hcc=>exact .ownE t _ off c ad (hp k (by simpa [bT] using hn)).1 hcc
 | ptr k off b hkl h =>
  obtain ⟨h1,h2⟩:=hp k (by simpa [bT] using hn)
  exact .ptr _ off b h1 fun ha=>by obtain ⟨e1,e2,e3⟩:=h2 ha;rw [e2];exact h e1
 | rptr t k i off b hkl h =>
  obtain ⟨h1,h2⟩:=hp k (by simpa [bT] using hn)
  exact .rptr t _ i off b h1 fun ha=>by obtain ⟨e1,e2,e3⟩:=h2 ha;rw [e2];exact h e1
 | mp k b hkl h =>
  obtain ⟨h1,h2⟩:=hp k (by simpa [bT] using hn)
  exact .mp _ b h1 fun ha=>by obtain ⟨e1,e2,e3⟩:=h2 ha;rw [e2];exact h e1
 | vptr t l i off b o xs hr hw h ih =>
  refine .vptr t l i off b o xs (hk.ro b hr) (fun i c hi=>by rw [World.cell?_of_block (w:=w) (hk.same b hr)];exact hw i c hi) fun i c hi=>?_
  obtain ⟨e,he⟩:=pN hi
  have:=ih i c hi (nB he p)
  rwa [nC he] at this
 | clo fn fs cs fs' cs' hl h hl' h' ih ih' =>
  have hab : dr p fs = true ∧ dr p cs = true:=by
   simp only [bT] at hn
   cases ha : dr p fs with
   | false=>rw [ha] at hn;cases hn
   | true=>rw [ha] at hn;exact ⟨rfl,hn⟩
  exact .clo fn _ _ fs' cs' (by rw [cS];exact hl) (fun i c x hc hx=>by obtain ⟨c',h1,rfl⟩:=gJ hc;exact ih i c' x h1 hx (gI hab.1 h1))
   (by rw [cS];exact hl') (fun i c x hc hx=>by obtain ⟨c',h1,rfl⟩:=gJ hc;exact ih' i c' x h1 hx (gI hab.2 h1))
theorem bq.ren {w w' : World} {g g' : G} {lim lim' b n : Nat} {bl : Blk} {ρ : Nat → Nat} {p : Nat → Bool} (hk : dQ w w' g g')
  (hp : ∀ k,p k = true → (ρ k < lim' ∨ ρ k % 2 = 1) ∧ (g'.al (ρ k) → g.al k ∧ g'.be (ρ k) = g.be k ∧ g'.sz (ρ k) = g.sz k)) (h : bq w g lim b n bl) (hb : 0 < n → w'.heap[b]? = w.heap[b]?)
  (hn : ∀ cs,bl = .box cs → dr p cs = true) (hn2 : ∀ ks cs,bl = .mp ks cs → dr p cs = true) : bq w' g' lim' b n (fw ρ bl):=by
 cases bl with
 | box cs =>
  obtain ⟨h0,c,ty,h1,h2,h3,h4⟩:=h
  exact ⟨h0,c,ty,(hb h0).trans h1,h2,by rw [cS];exact h3,fun i a x ha hx=>by
   obtain ⟨a',h5,rfl⟩:=gJ ha
   exact (h4 i a' x h5 hx).ren hk hp (gI (hn cs rfl) h5)⟩
 | mp ks cs =>
  obtain ⟨h0,hl,c,ty,h1,h2,h3,h4⟩:=h
  exact ⟨h0,by rw [cS];exact hl,c,ty,(hb h0).trans h1,by rw [cS];exact h2,h3,fun i a x ha hx=>by
   obtain ⟨a',h5,rfl⟩:=gJ ha
   exact (h4 i a' x h5 hx).ren hk hp (gI (hn2 ks cs rfl) h5)⟩
 | pm ik F m =>
  obtain ⟨h0,c,ty,h1,h2⟩:=h
  exact ⟨h0,c,ty,(hb h0).trans h1,h2⟩
 | row t l =>
  rcases h with h0|⟨h0,c,ty,h1,h2,h3,h4⟩
  ·exact .inl h0
  refine .inr ⟨h0,c,ty,(hb h0).trans h1,h2,h3,fun i a x ha hx=>?_⟩
  obtain ⟨e,he⟩:=pN ha
  have:=(h4 i a x ha hx).ren hk hp (nB he p)
  rwa [nC he] at this
open Go Go.RowKit
def Ev1 (P : Program) (fid : FuncId) (args : List AV) (m0 : Mem) (v : AV) (m1 : Mem) : Prop:=
 ∀ (w : World) (g : G) (vs : Array Value),aM w g L (ak m0) → ax w g L args vs →
  Calls P fid vs w fun e w'=>∃ x g',e = .returned x ∧ Rep w' g' L v x ∧ aM w' g' L (ak m1) ∧ Tr g w w' ∧ LeG L g g'
theorem Ev1.of_ev {P : Program} {C : cG} (hC : cD P C) {fid : FuncId} {fn : Func} {c : Code} (hf : P.funcs[fid]? = some fn) (hb : fn.body = some c) {nt : Nat} {args : List AV} {m0 m1 : Mem} {v : AV}
  (hn : fn.ntmps - args.length = nt) (h : ev P C L c (ua P L fn.results.toList fun v' m'=>Le v' v ∧ m' = m1) (args ++ dj nt) m0) : Ev1 P fid args m0 v m1:=by
 intro w g vs hm ha
 refine (lR hC hf hb hn h hm ha).mono fun e w' ⟨v',x,g',m',e1,e2,e3,e4,e5,e6,e7⟩=>?_
 subst e7
 exact ⟨x,g',e1,e6 _ _ _ _ e2,e3,e4,e5⟩
def asc : List (Nat × Nat) → Nat → Nat
 | [],_=>0
 | (i,a) :: r,k=>match Nat.beq i k with|true=>a|false=>asc r k
def asb : List (Nat × Nat) → Nat → Option Nat
 | [],_=>none
 | (i,a) :: r,k=>match Nat.beq a k with|true=>some i|false=>asb r k
def bY : List (Nat × Nat) → Nat → Bool
 | [],_=>false
 | (i,_) :: r,k=>match Nat.beq i k with|true=>true|false=>bY r k
def uv : List (Nat × Nat) → Nat → Bool
 | [],_=>false
 | (_,a) :: r,k=>match Nat.beq a k with|true=>true|false=>uv r k
def jW : List (Nat × Nat) → Bool
 | []=>true
 | (i,a) :: r=>match bY r i with|true=>false|false=>match uv r a with|true=>false|false=>jW r
def bo : Mem → Nat → Bool
 | [],_=>false
 | (i,_) :: r,k=>match Nat.beq i k with|true=>true|false=>bo r k
theorem bI {m : Mem} {k : Nat} : bo m k = (ak m k).isSome:=by
 induction m with
 | nil=>rfl
 | cons p r ih =>
  obtain ⟨i,b⟩:=p
  simp only [bo,ak]
  cases Nat.beq i k with
  | true=>rfl
  | false=>exact ih
theorem CI {l : List (Nat × Nat)} {k : Nat} (h : bY l k = true) : uv l (asc l k) = true:=by
 induction l with
 | nil=>cases h
 | cons p r ih =>
  obtain ⟨i,a⟩:=p
  simp only [bY] at h
  simp only [asc]
  cases hi : Nat.beq i k with
  | true=>simp only [uv,Nat.beq_refl]
  | false =>
   rw [hi] at h
   simp only [uv]
   cases Nat.beq a (asc r k) with
   | true=>rfl
   | false=>exact ih h
theorem de {l : List (Nat × Nat)} (hi : jW l = true) {k : Nat} (h : bY l k = true) : asb l (asc l k) = some k:=by
 induction l with
 | nil=>cases h
 | cons p r ih =>
  obtain ⟨i,a⟩:=p
  simp only [jW] at hi
  split at hi
  ·cases hi
  split at hi
  ·cases hi
  rename_i h1 h2
  simp only [bY] at h
  simp only [asc,asb]
  cases hik : Nat.beq i k with
  | true=>simp only [Nat.beq_refl];rw [nbt.1 hik]
  | false =>
   rw [hik] at h
   simp only
   cases ha : Nat.beq a (asc r k) with
   | true=>have:=CI h;rw [← nbt.1 ha,h2] at this;cases this
   | false=>exact ih hi h
theorem d0 {l : List (Nat × Nat)} {k j : Nat} (hi : jW l = true) (h : asb l k = some j) : bY l j = true ∧ asc l j = k:=by
 induction l with
 | nil=>cases h
 | cons p r ih =>
  obtain ⟨i,a⟩:=p
  simp only [jW] at hi
  split at hi
  ·cases hi
  split at hi
  ·cases hi
  rename_i _ h1 _ h2
  simp only [asb] at h
  cases ha : Nat.beq a k with
  | true =>
   rw [ha] at h;cases h
   exact ⟨by simp [bY,Nat.beq_refl],by simp [asc,Nat.beq_refl,nbt.1 ha]⟩
  | false =>
   rw [ha] at h
   obtain ⟨e1,e2⟩:=ih hi h
   have hij : Nat.beq i j = false:=by
    cases hb : Nat.beq i j with
    | false=>rfl
    | true=>rw [nbt.1 hb] at h1;rw [e1] at h1;cases h1
   exact ⟨by simp [bY,hij,e1],by simp [asc,hij,e2]⟩
def jz (p q : Nat → Bool) : Mem → Bool
 | []=>true
 | (k,b) :: r=>match q k with
  | false=>false
  | true=>match b with
   | .box cs=>match dr p cs with|true=>jz p q r|false=>false
   | .row _ _=>jz p q r
   | .mp _ cs=>match dr p cs with|true=>jz p q r|false=>false
   | .pm _ _ _=>jz p q r
theorem cv {p q : Nat → Bool} : ∀ {m : Mem},jz p q m = true → ∀ {k b},ak m k = some b → q k = true ∧ (∀ cs,b = .box cs → dr p cs = true) ∧ ∀ ks cs,b = .mp ks cs → dr p cs = true
 | [],_,k,b,h=>by simp [ak] at h
 | (i,c) :: r,h,k,b,hb=>by
  simp only [jz] at h
  split at h
  ·cases h
  rename_i hq
  simp only [ak] at hb
  cases c with
  | box cs =>
   simp only at h
   split at h
   ·rename_i hc
    split at hb
    ·rename_i hik;cases hb
     exact ⟨by rw [← nbt.1 hik];exact hq,(fun cs' e=>by cases e;exact hc),fun _ _ e=>by cases e⟩
    ·exact cv h hb
   ·cases h
  | row t l =>
   simp only at h
   split at hb
   ·rename_i hik;cases hb
    exact ⟨by rw [← nbt.1 hik];exact hq,(fun cs' e=>by cases e),fun _ _ e=>by cases e⟩
   ·exact cv h hb
  | mp ks cs =>
   simp only at h
   split at h
   ·rename_i hc
    split at hb
    ·rename_i hik;cases hb
     exact ⟨by rw [← nbt.1 hik];exact hq,(fun _ e=>by cases e),fun _ _ e=>by cases e;exact hc⟩
    ·exact cv h hb
   ·cases h
  | pm ik F n =>
   simp only at h
   split at hb
   ·rename_i hik;cases hb
    exact ⟨by rw [← nbt.1 hik];exact hq,(fun cs' e=>by cases e),fun _ _ e=>by cases e⟩
   ·exact cv h hb
def rdR (ρ : Nat → Nat) : Mem → List (Nat × Blk)
 | []=>[]
 | (k,b) :: r=>(ρ k,fw ρ b) :: rdR ρ r
def dlR (ρ : Nat → Nat) : Mem → List (Nat × Option Blk)
 | []=>[]
 | (k,_) :: r=>(ρ k,none) :: dlR ρ r
def ptR (ρ : Nat → Nat) : Mem → List (Nat × Option Blk)
 | []=>[]
 | (k,b) :: r=>(ρ k,some (fw ρ b)) :: ptR ρ r
def lL : List (Nat × Option Blk) → List (Nat × Option Blk) → List (Nat × Option Blk)
 | [],b=>b
 | p :: r,b=>p :: lL r b
def frR (ρ : Nat → Nat) (m0 : Mem) : Mem → List Nat
 | []=>[]
 | (k,_) :: r=>match bo m0 k with|true=>frR ρ m0 r|false=>ρ k :: frR ρ m0 r
def uw (base : Nat) (ρ : Nat → Nat) (m0 : Mem) : Mem → Bool
 | []=>true
 | (k,_) :: r=>match bo m0 k with
  | true=>uw base ρ m0 r
  | false=>match Nat.ble base (ρ k) with
   | true=>match Nat.blt (ρ k) (base + L) with
    | true=>uw base ρ m0 r
    | false=>false
   | false=>false
def t7 : Mem → Bool
 | []=>true
 | (k,_) :: r=>match bo r k with|true=>false|false=>t7 r
def oJ (base : Nat) (l : List (Nat × Nat)) (args : List AV) (m0 : Mem) (v : AV) (m1 : Mem) : Bool:=
 match jW l with
 | false=>false
 | true=>match jz (bo m0) (fun k=>match bY l k with|true=>Nat.blt k L|false=>false) m0 with
  | false=>false
  | true=>match jz (bo m1) (bY l) m1 with
   | false=>false
   | true=>match dr (bo m0) args with
    | false=>false
    | true=>match bT (bo m1) v with
     | false=>false
     | true=>match t7 m1 with
      | false=>false
      | true=>uw base (asc l) m0 m1
theorem Ew (a b : List (Nat × Option Blk)) : lL a b = a ++ b:=by
 induction a with
 | nil=>rfl
 | cons p r ih=>simp [lL,ih]
theorem AD (a b : List (Nat × Option Blk)) (m : Nat → Option Blk) : aX (a ++ b) m = aX b (aX a m):=by
 induction a generalizing m with
 | nil=>rfl
 | cons p r ih=>obtain ⟨k,x⟩:=p;simp only [List.cons_append,aX];exact ih _
theorem Ex {l : List (Nat × Nat)} {m0 : Mem} (hd : ∀ k,bo m0 k = true → bY l k = true) (hi : jW l = true) : ∀ (m : Nat → Option Blk) (k : Nat),
  aX (dlR (asc l) m0) m k = (match asb l k with|some j=>(match bo m0 j with|true=>none|false=>m k)|none=>m k):=by
 induction m0 with
 | nil=>intro m k;simp only [dlR,aX,bo];split<;>rfl
 | cons p r ih =>
  obtain ⟨i,b⟩:=p
  intro m k
  have hdi : bY l i = true:=hd i (by simp [bo,Nat.beq_refl])
  simp only [dlR,aX]
  rw [ih (fun k hk=>hd k (by simp only [bo];split<;>first|rfl|exact hk))]
  cases hb : asb l k with
  | none =>
   simp only
   have : asc l i ≠ k:=fun e=>by rw [← e,de hi hdi] at hb;cases hb
   exact cU _ _ this
  | some j =>
   simp only [bo]
   obtain ⟨q1,q2⟩:=d0 hi hb
   cases hij : Nat.beq i j with
   | true =>
    have:=nbt.1 hij
    subst this
    rw [q2]
    cases bo r i with
    | true=>rfl
    | false=>simp [put]
   | false =>
    have : asc l i ≠ k:=fun e=>by rw [← e,de hi hdi] at hb;cases hb;exact nbf.1 hij rfl
    rw [cU _ _ this]
theorem Ey {l : List (Nat × Nat)} {m1 : Mem} (hd : ∀ k,bo m1 k = true → bY l k = true) (hi : jW l = true) (hk : t7 m1 = true) : ∀ (m : Nat → Option Blk) (k : Nat),
  aX (ptR (asc l) m1) m k = (match asb l k with|some j=>(match ak m1 j with|some b=>some (fw (asc l) b)|none=>m k)|none=>m k):=by
 induction m1 with
 | nil=>intro m k;simp only [ptR,aX,ak];split<;>rfl
 | cons p r ih =>
  obtain ⟨i,b⟩:=p
  intro m k
  simp only [t7] at hk
  split at hk
  ·cases hk
  rename_i hri
  have hdi : bY l i = true:=hd i (by simp [bo,Nat.beq_refl])
  simp only [ptR,aX]
  rw [ih (fun k hk=>hd k (by simp only [bo];split<;>first|rfl|exact hk)) hk]
  cases hb : asb l k with
  | none =>
   simp only
   have : asc l i ≠ k:=fun e=>by rw [← e,de hi hdi] at hb;cases hb
   exact cU _ _ this
  | some j =>
   simp only [ak]
   obtain ⟨q1,q2⟩:=d0 hi hb
   cases hij : Nat.beq i j with
   | true =>
    have:=nbt.1 hij
    subst this
    rw [bI] at hri
    cases hm : ak r i with
    | some _=>rw [hm] at hri;cases hri
    | none=>simp only;rw [q2];simp [put]
   | false =>
    have : asc l i ≠ k:=fun e=>by rw [← e,de hi hdi] at hb;cases hb;exact nbf.1 hij rfl
    rw [cU _ _ this]
theorem xD {ρ : Nat → Nat} {m0 m1 : Mem} {k : Nat} : k ∈ frR ρ m0 m1 ↔ ∃ j,bo m1 j = true ∧ bo m0 j = false ∧ ρ j = k:=by
 induction m1 with
 | nil=>simp [frR,bo]
 | cons p r ih =>
  obtain ⟨i,b⟩:=p
  simp only [frR]
  cases h0 : bo m0 i with
  | true =>
   simp only
   rw [ih]
   constructor
   ·rintro ⟨j,h1,h2,h3⟩;exact ⟨j,by simp only [bo];split<;>first|rfl|exact h1,h2,h3⟩
   ·rintro ⟨j,h1,h2,h3⟩
    simp only [bo] at h1
    split at h1
    ·rename_i hij;rw [← nbt.1 hij,h0] at h2;cases h2
    ·exact ⟨j,h1,h2,h3⟩
  | false =>
   simp only [List.mem_cons]
   rw [ih]
   constructor
   ·rintro (rfl|⟨j,h1,h2,h3⟩)
    ·exact ⟨i,by simp [bo,Nat.beq_refl],h0,rfl⟩
    ·exact ⟨j,by simp only [bo];split<;>first|rfl|exact h1,h2,h3⟩
   ·rintro ⟨j,h1,h2,h3⟩
    simp only [bo] at h1
    split at h1
    ·rename_i hij;rw [nbt.1 hij];exact .inl h3.symm
    ·exact .inr ⟨j,h1,h2,h3⟩
theorem xE {base : Nat} {ρ : Nat → Nat} {m0 m1 : Mem} (h : uw base ρ m0 m1 = true) {j : Nat} (h1 : bo m1 j = true) (h2 : bo m0 j = false) : base ≤ ρ j ∧ ρ j < base + L:=by
 induction m1 with
 | nil=>cases h1
 | cons p r ih =>
  obtain ⟨i,b⟩:=p
  simp only [uw] at h
  simp only [bo] at h1
  split at h
  ·rename_i h0
   split at h1
   ·rename_i hij;rw [← nbt.1 hij,h0] at h2;cases h2
   ·exact ih h h1
  ·split at h
   ·rename_i hb1
    split at h
    ·rename_i hb2
     split at h1
     ·rename_i hij;rw [← nbt.1 hij];exact ⟨Nat.le_of_ble_eq_true hb1,Nat.le_of_ble_eq_true hb2⟩
     ·exact ih h h1
    ·cases h
   ·cases h
mutual
theorem yG (j k : Nat) : ∀ v : AV,men k v = false → men k (fgt j v) = false
 | .top,_=>rfl
 | .tt,_=>rfl
 | .ff,_=>rfl
 | .emp _,_=>rfl
 | .bl _ _,_=>rfl
 | .lit _,_=>rfl
 | .agg cs,h=>by simp only [fgt,men];exact dD j k cs (by simpa [men] using h)
 | .tup cs,h=>by simp only [fgt,men];exact dD j k cs (by simpa [men] using h)
 | .vec _ _,_=>rfl
 | .own t i o n c,h=>by simp only [fgt];cases Nat.beq i j<;>first|rfl|exact h
 | .ptr i o,h=>by simp only [fgt];cases Nat.beq i j<;>first|rfl|exact h
 | .rptr t i x o,h=>by simp only [fgt];cases Nat.beq i j<;>first|rfl|exact h
 | .mp i,h=>by simp only [fgt];cases Nat.beq i j<;>first|rfl|exact h
 | .vptr _ _ _ _,_=>rfl
 | .clo f a b,h=>by
  simp only [men] at h
  cases ha : b8 k a with
  | true=>rw [ha] at h;cases h
  | false=>rw [ha] at h;simp only [fgt,men];rw [dD j k a ha];exact dD j k b h
theorem dD (j k : Nat) : ∀ cs : List AV,b8 k cs = false → b8 k (cM j cs) = false
 | [],_=>rfl
 | c :: r,h=>by
  simp only [b8] at h
  cases hc : men k c with
  | true=>rw [hc] at h;cases h
  | false=>rw [hc] at h;simp only [cM,b8];rw [yG j k c hc];exact dD j k r h
end
theorem wM (j k : Nat) {b : Blk} (h : dT k b = false) : dT k (gO j b) = false:=by
 cases b with
 | box cs=>exact dD j k cs h
 | row t l=>rfl
 | mp ks cs=>exact dD j k cs h
 | pm _ _ _=>rfl
theorem AF {w : World} {g : G} {lim : Nat} (ks : List Nat) : ∀ {f : List AV} {xs : Array Value},ax w g lim f xs → ax w g lim (eJ ks f) xs:=by
 induction ks with
 | nil=>intro f xs h;exact h
 | cons j r ih=>intro f xs h;exact ih (h.fgt j)
theorem AG (ks : List Nat) : ∀ (f : List AV) (k : Nat),(k ∈ ks ∨ b8 k f = false) → b8 k (eJ ks f) = false:=by
 induction ks with
 | nil=>intro f k h;rcases h with h|h;cases h;exact h
 | cons j r ih =>
  intro f k h
  simp only [eJ]
  apply ih
  rcases h with h|h
  ·rcases List.mem_cons.1 h with rfl|h
   ·exact .inr (dk _ _)
   ·exact .inl h
  ·exact .inr (dD j k f h)
theorem CJ {w : World} {g : G} {lim : Nat} (ks : List Nat) : ∀ {m : Nat → Option Blk},aM w g lim m → aM w g lim (cH ks m):=by
 induction ks with
 | nil=>intro m h;exact h
 | cons j r ih=>intro m h;exact ih (h.fgt j)
theorem AH (ks : List Nat) : ∀ (m : Nat → Option Blk) (k : Nat),(k ∈ ks ∨ ∀ i b,m i = some b → dT k b = false) → ∀ i b,cH ks m i = some b → dT k b = false:=by
 induction ks with
 | nil=>intro m k h;rcases h with h|h;cases h;exact h
 | cons j r ih =>
  intro m k h
  simp only [cH]
  apply ih
  have hb : ∀ i b,ci j m i = some b → ∃ b',m i = some b' ∧ b = gO j b':=fun i b hb=>by
   simp only [ci,Option.map_eq_some_iff] at hb
   obtain ⟨b',h1,h2⟩:=hb;exact ⟨b',h1,h2.symm⟩
  rcases h with h|h
  ·rcases List.mem_cons.1 h with rfl|h
   ·exact .inr fun i b hb'=>by obtain ⟨b',_,rfl⟩:=hb i b hb';exact k_ _ b'
   ·exact .inl h
  ·exact .inr fun i b hb'=>by obtain ⟨b',h1,rfl⟩:=hb i b hb';exact wM j k (h i b' h1)
theorem qq {ks : List Nat} : ∀ {m : Nat → Option Blk} {k : Nat},(cH ks m k).isSome = (m k).isSome:=by
 induction ks with
 | nil=>intro m k;rfl
 | cons j r ih=>intro m k;simp only [cH];rw [ih];simp [ci]
theorem xF {ρ : Nat → Nat} {m0 : Mem} {m : Nat → Option Blk} (h : ∀ p ∈ rdR ρ m0,m p.1 = some p.2) {j : Nat} {b : Blk} (hb : ak m0 j = some b) : m (ρ j) = some (fw ρ b):=by
 induction m0 with
 | nil=>simp [ak] at hb
 | cons p r ih =>
  obtain ⟨i,c⟩:=p
  simp only [ak] at hb
  split at hb
  ·rename_i hij;cases hb
   rw [← nbt.1 hij]
   exact h (ρ i,fw ρ b) (by simp [rdR])
  ·exact ih (fun p hp=>h p (by simp [rdR,hp])) hb
theorem Ev1.cact {P : Program} {fid : FuncId} {args : List AV} {m0 m1 : Mem} {v : AV} (h : Ev1 P fid args m0 v m1) (base : Nat) (l : List (Nat × Nat)) (hok : oJ base l args m0 v m1 = true) :
  fI P base fid (dc (asc l) args) ⟨bK (asc l) v,rdR (asc l) m0,lL (dlR (asc l) m0) (ptR (asc l) m1),frR (asc l) m0 m1⟩:=by
 unfold oJ at hok
 split at hok
 ·cases hok
 rename_i hinj
 split at hok
 ·cases hok
 rename_i hm0
 split at hok
 ·cases hok
 rename_i hm1
 split at hok
 ·cases hok
 rename_i hargs
 split at hok
 ·cases hok
 rename_i hv
 split at hok
 ·cases hok
 rename_i hdist
 refine ⟨fun m hrd w g vs hm hr=>?_⟩
 have k0 : ∀ j,bo m0 j = true → bY l j = true ∧ j < L:=fun j hj=>by
  rw [bI] at hj
  obtain ⟨b,hb⟩:=Option.isSome_iff_exists.1 hj
  have:=(cv hm0 hb).1
  split at this
  ·rename_i hd;exact ⟨hd,Nat.le_of_ble_eq_true this⟩
  ·cases this
 have k1 : ∀ j,bo m1 j = true → bY l j = true:=fun j hj=>by
  rw [bI] at hj
  obtain ⟨b,hb⟩:=Option.isSome_iff_exists.1 hj
  exact (cv hm1 hb).1
 have hal0 : ∀ j,bo m0 j = true → g.al (asc l j):=fun j hj=>by
  rw [bI] at hj
  obtain ⟨b,hb⟩:=Option.isSome_iff_exists.1 hj
  exact (hm.al _).2 (by rw [xF hrd hb];rfl)
 have hinj2 : ∀ i j,bY l i = true → bY l j = true → asc l i = asc l j → i = j:=fun i j hi hj e=>by
  have h1:=de hinj hi
  rw [e,de hinj hj] at h1;cases h1;rfl
 -- the callee's ghost
 let g0 : G:={ ro:=g.ro,no:=fun b=>g.no b ∨ ∃ k,g.al k ∧ 0 < g.sz k ∧ g.be k = b ∧ ∀ j,bo m0 j = true → asc l j ≠ k,al:=fun j=>bo m0 j = true,be:=fun j=>g.be (asc l j),sz:=fun j=>g.sz (asc l j) }
 let σ : Nat → Nat:=fun k=>(asb l k).getD 0
 have hσ : ∀ j,bY l j = true → σ (asc l j) = j:=fun j hj=>by simp only [σ];rw [de hinj hj];rfl
 let p0 : Nat → Bool:=fun k=>match asb l k with|some j=>bo m0 j|none=>false
 have hp0 : ∀ j,bo m0 j = true → p0 (asc l j) = true:=fun j hj=>by simp only [p0];rw [de hinj (k0 j hj).1];exact hj
 have hpσ : ∀ k,p0 k = true → (σ k < L ∨ σ k % 2 = 1) ∧ (g0.al (σ k) → g.al k ∧ g0.be (σ k) = g.be k ∧ g0.sz (σ k) = g.sz k):=by
  intro k hk
  simp only [p0] at hk
  cases hb : asb l k with
  | none=>rw [hb] at hk;cases hk
  | some j =>
   rw [hb] at hk
   obtain ⟨q1,q2⟩:=d0 hinj hb
   have e : σ k = j:=by simp only [σ,hb];rfl
   rw [e]
   exact ⟨.inl (k0 j hk).2,fun _=>⟨by rw [← q2];exact hal0 j hk,by simp only [g0];rw [q2],by simp only [g0];rw [q2]⟩⟩
 have hkw : dQ w w g g0:=⟨fun _ h=>h,fun _ _=>rfl⟩
 have hm00 : aM w g0 L (ak m0):=by
  refine ⟨fun j=>by rw [← bI],fun j hj=>.inl (k0 j hj).2,fun j hj hz=>hm.nro _ (hal0 j hj) hz,fun i j hi hj zi zj e=>hinj2 i j (k0 i hi).1 (k0 j hj).1 (hm.inj _ _ (hal0 i hi) (hal0 j hj) zi zj e),fun j b hb=>?_,hm.rolt,fun b hb=>?_⟩
  ·have h1:=(hm.blk _ _ (xF hrd hb)).ren hkw hpσ (fun _=>rfl) (fun cs hcs=>by
    cases b with
    | row t l=>cases hcs
    | box cs0=>cases hcs;exact gL hp0 cs0 ((cv hm0 hb).2.1 cs0 rfl)
    | pm _ _ _=>cases hcs
    | mp ks0 cs0=>cases hcs) (fun ks cs hcs=>by
    cases b with
    | row t l=>cases hcs
    | box cs0=>cases hcs
    | pm _ _ _=>cases hcs
    | mp ks0 cs0=>cases hcs;exact gL hp0 cs0 ((cv hm0 hb).2.2 _ cs0 rfl))
   have h2 : fw σ (fw (asc l) b) = b:=by
    cases b with
    | row t l=>rfl
    | box cs0=>simp only [fw];rw [gK (fun k hk=>hσ k (k0 k hk).1) cs0 ((cv hm0 hb).2.1 cs0 rfl)]
    | pm _ _ _=>rfl
    | mp ks0 cs0=>simp only [fw];rw [gK (fun k hk=>hσ k (k0 k hk).1) cs0 ((cv hm0 hb).2.2 ks0 cs0 rfl)]
   rwa [h2] at h1
  ·rcases hb with hb|⟨k,hk,hz,rfl,hne⟩
   ·exact ⟨(hm.nof b hb).1,(hm.nof b hb).2.1,fun j hj hz=>(hm.nof b hb).2.2 _ (hal0 j hj) hz⟩
   ·exact ⟨hm.lt_heap hk hz,hm.nro k hk hz,fun j hj hz2 e=>hne j hj (hm.inj _ _ (hal0 j hj) hk hz2 hz e)⟩
 have hr0 : ax w g0 L args vs:=by
  refine ⟨by have:=hr.1;rw [cS] at this;exact this,fun i c x hc hx=>?_⟩
  have hc2 : (dc (asc l) args)[i]? = some (bK (asc l) c):=by
   have hlt : i < (dc (asc l) args).length:=by rw [cS];exact (List.getElem?_eq_some_iff.1 hc).1
   obtain ⟨c',h1,h2⟩:=gJ (List.getElem?_eq_getElem hlt)
   rw [hc] at h1;cases h1
   rw [List.getElem?_eq_getElem hlt,h2]
  have hn:=gI hargs hc
  have h1:=(hr.2 i _ x hc2 hx).ren hkw hpσ (ut hp0 c hn)
  rwa [uq (fun k hk=>hσ k (k0 k hk).1) c hn] at h1
 refine (h w g0 vs hm00 hr0).mono fun e w' ⟨x,g',e1,e2,e3,e4,e5⟩=>?_
 let be2 : Nat → Nat:=fun k=>match asb l k with|some j=>(match bo m1 j with|true=>g'.be j|false=>g.be k)|none=>g.be k
 let sz2 : Nat → Nat:=fun k=>match asb l k with|some j=>(match bo m1 j with|true=>g'.sz j|false=>g.sz k)|none=>g.sz k
 let New : Nat → Nat → Prop:=fun k j=>asb l k = some j ∧ bo m1 j = true
 let Old : Nat → Prop:=fun k=>g.al k ∧ (∀ j,¬ New k j) ∧ ∀ j,bo m0 j = true → asc l j ≠ k
 let g2 : G:={ ro:=g'.ro,no:=g.no,al:=fun k=>(∃ j,New k j) ∨ Old k,be:=be2,sz:=sz2 }
 have hnew : ∀ k j,New k j → be2 k = g'.be j ∧ sz2 k = g'.sz j:=fun k j hn=>⟨by simp only [be2];rw [hn.1];simp only [hn.2],by simp only [sz2];rw [hn.1];simp only [hn.2]⟩
 have hold : ∀ k,(∀ j,¬ New k j) → be2 k = g.be k ∧ sz2 k = g.sz k:=fun k hn=>by
  simp only [be2,sz2]
  cases hb : asb l k with
  | none=>exact ⟨rfl,rfl⟩
  | some j =>
   simp only
   cases hj : bo m1 j with
   | true=>exact absurd ⟨hb,hj⟩ (hn j)
   | false=>exact ⟨rfl,rfl⟩
 have hU : ∀ k,Old k → 0 < g.sz k → g'.no (g.be k):=fun k hk hz=>e5.no _ (.inr ⟨k,hk.1,hz,rfl,hk.2.2⟩)
 have hM : ∀ k,k ∉ frR (asc l) m0 m1 → g2.al k → g.al k ∧ g2.be k = g.be k ∧ g2.sz k = g.sz k:=by
  intro k hk ha
  rcases ha with ⟨j,hn⟩|ho
  ·obtain ⟨q1,q2⟩:=d0 hinj hn.1
   have hj0 : bo m0 j = true:=by
    cases hj : bo m0 j with
    | true=>rfl
    | false=>exact absurd (xD.2 ⟨j,hn.2,hj,q2⟩) hk
   have hal' : g'.al j:=(e3.al j).2 (by rw [← bI];exact hn.2)
   obtain ⟨_,b2,b3⟩:=e5.al j (k0 j hj0).2 hal'
   refine ⟨by rw [← q2];exact hal0 j hj0,?_,?_⟩
   ·show be2 k = g.be k
    rw [(hnew k j hn).1,b2];simp only [g0];rw [q2]
   ·show sz2 k = g.sz k
    rw [(hnew k j hn).2,b3];simp only [g0];rw [q2]
  ·exact ⟨ho.1,(hold k ho.2.1).1,(hold k ho.2.1).2⟩
 have hp1 : ∀ j,bo m1 j = true → (asc l j < base + L ∨ asc l j % 2 = 1) ∧ (g2.al (asc l j) → g'.al j ∧ g2.be (asc l j) = g'.be j ∧ g2.sz (asc l j) = g'.sz j):=by
  intro j hj
  have hn : New (asc l j) j:=⟨de hinj (k1 j hj),hj⟩
  refine ⟨?_,fun _=>⟨(e3.al j).2 (by rw [← bI];exact hj),hnew _ _ hn⟩⟩
  cases hj0 : bo m0 j with
  | true=>exact hm.lt _ (hal0 j hj0)
  | false=>exact .inl (xE hok hj hj0).2
 have hkw2 : dQ w' w' g' g2:=⟨fun _ h=>h,fun _ _=>rfl⟩
 have hkw3 : dQ w w' g g2:=⟨e5.ro,e4.same⟩
 have hme : ∀ k,aX (lL (dlR (asc l) m0) (ptR (asc l) m1)) (cH (frR (asc l) m0 m1) m) k =
   (match asb l k with|some j=>(match ak m1 j with|some b=>some (fw (asc l) b)|none=>(match bo m0 j with|true=>none|false=>cH (frR (asc l) m0 m1) m k))|none=>cH (frR (asc l) m0 m1) m k):=by
  intro k
  rw [Ew,AD,Ey k1 hinj hdist,Ex (fun k hk=>(k0 k hk).1) hinj]
  cases asb l k with
  | none=>rfl
  | some j=>rfl
 have hmo : ∀ k b,aX (lL (dlR (asc l) m0) (ptR (asc l) m1)) (cH (frR (asc l) m0 m1) m) k = some b → (∃ j b1,New k j ∧ ak m1 j = some b1 ∧ b = fw (asc l) b1) ∨ (Old k ∧ cH (frR (asc l) m0 m1) m k = some b):=by
  intro k b hb
  rw [hme] at hb
  have hof : cH (frR (asc l) m0 m1) m k = some b → g.al k:=fun hb=>(hm.al k).2 (by rw [← qq (ks:=frR (asc l) m0 m1),hb];rfl)
  cases ha : asb l k with
  | none =>
   rw [ha] at hb
   refine .inr ⟨⟨hof hb,⟨fun j hn=>?_,fun j hj e=>?_⟩⟩,hb⟩
   ·have e9 : asb l k = some j:=hn.1
    rw [ha] at e9;cases e9
   ·rw [← e,de hinj (k0 j hj).1] at ha;cases ha
  | some j =>
   rw [ha] at hb
   simp only at hb
   cases h1 : ak m1 j with
   | some b1=>rw [h1] at hb;cases hb;exact .inl ⟨j,b1,⟨ha,by rw [bI,h1];rfl⟩,h1,rfl⟩
   | none =>
    rw [h1] at hb
    simp only at hb
    cases h0 : bo m0 j with
    | true=>rw [h0] at hb;cases hb
    | false =>
     rw [h0] at hb
     refine .inr ⟨⟨hof hb,⟨fun j2 hn=>?_,fun j2 hj e=>?_⟩⟩,hb⟩
     ·have e9 : asb l k = some j2:=hn.1
      rw [ha] at e9;cases e9
      have:=hn.2;rw [bI,h1] at this;cases this
     ·rw [← e,de hinj (k0 j2 hj).1] at ha;cases ha
      rw [hj] at h0;cases h0
 refine ⟨x,g2,e1,e2.ren hkw2 hp1 hv,?_,⟨e4.os,e4.tape,e4.output,e4.size,e4.same,fun b hb=>e4.others b (.inl hb)⟩,⟨e5.ro,fun _ h=>h,fun k hk ha=>hM k (fun hf=>?_) ha⟩,fun fr xs hfr=>?_⟩
 ·refine ⟨fun k=>?_,fun k hk=>?_,fun k hk hz hro=>?_,fun i k hi hk zi zk he=>?_,fun k b hb=>?_,e3.rolt,fun b hb=>?_⟩
  ·constructor
   ·intro ha
    show (aX _ _ k).isSome = true
    rw [hme]
    rcases ha with ⟨j,hn⟩|ho
    ·rw [hn.1]
     obtain ⟨b1,hb1⟩:=Option.isSome_iff_exists.1 (bI (m:=m1) ▸ hn.2)
     simp only [hb1];rfl
    ·have hs : (cH (frR (asc l) m0 m1) m k).isSome = true:=by rw [qq];exact (hm.al k).1 ho.1
     cases ha : asb l k with
     | none=>exact hs
     | some j =>
      simp only
      have h1 : ak m1 j = none:=by
       cases h1 : ak m1 j with
       | none=>rfl
       | some b=>exact absurd ⟨ha,by rw [bI,h1];rfl⟩ (ho.2.1 j)
      rw [h1]
      simp only
      cases h0 : bo m0 j with
      | true=>exact absurd (d0 hinj ha).2 (ho.2.2 j h0)
      | false=>exact hs
   ·intro hs
    obtain ⟨b,hb⟩:=Option.isSome_iff_exists.1 hs
    rcases hmo k b hb with ⟨j,b1,hn,_⟩|⟨ho,_⟩
    ·exact .inl ⟨j,hn⟩
    ·exact .inr ho
  ·rcases hk with ⟨j,hn⟩|ho
   ·have:=(hp1 j hn.2).1;rw [(d0 hinj hn.1).2] at this;exact this
   ·exact hm.lt k ho.1
  ·rcases hk with ⟨j,hn⟩|ho
   ·have hro : g'.ro (be2 k):=hro
    rw [(hnew k j hn).1] at hro
    have hz : 0 < sz2 k:=hz
    rw [(hnew k j hn).2] at hz
    exact e3.nro j ((e3.al j).2 (by rw [← bI];exact hn.2)) hz hro
   ·have hro : g'.ro (be2 k):=hro
    rw [(hold k ho.2.1).1] at hro
    have hz : 0 < sz2 k:=hz
    rw [(hold k ho.2.1).2] at hz
    exact (e3.nof _ (hU k ho hz)).2.1 hro
  ·have he : be2 i = be2 k:=he
   have zi : 0 < sz2 i:=zi
   have zk : 0 < sz2 k:=zk
   rcases hi with ⟨j,hn⟩|ho<;>rcases hk with ⟨j2,hn2⟩|ho2
   ·rw [(hnew i j hn).1,(hnew k j2 hn2).1] at he
    rw [(hnew i j hn).2] at zi
    rw [(hnew k j2 hn2).2] at zk
    have:=e3.inj j j2 ((e3.al j).2 (by rw [← bI];exact hn.2)) ((e3.al j2).2 (by rw [← bI];exact hn2.2)) zi zk he
    subst this
    rw [← (d0 hinj hn.1).2,← (d0 hinj hn2.1).2]
   ·rw [(hnew i j hn).1,(hold k ho2.2.1).1] at he
    rw [(hnew i j hn).2] at zi
    rw [(hold k ho2.2.1).2] at zk
    exact absurd he ((e3.nof _ (hU k ho2 zk)).2.2 j ((e3.al j).2 (by rw [← bI];exact hn.2)) zi)
   ·rw [(hold i ho.2.1).1,(hnew k j2 hn2).1] at he
    rw [(hold i ho.2.1).2] at zi
    rw [(hnew k j2 hn2).2] at zk
    exact absurd he.symm ((e3.nof _ (hU i ho zi)).2.2 j2 ((e3.al j2).2 (by rw [← bI];exact hn2.2)) zk)
   ·rw [(hold i ho.2.1).1,(hold k ho2.2.1).1] at he
    rw [(hold i ho.2.1).2] at zi
    rw [(hold k ho2.2.1).2] at zk
    exact hm.inj i k ho.1 ho2.1 zi zk he
  ·rcases hmo k b hb with ⟨j,b1,hn,hb1,rfl⟩|⟨ho,hb⟩
   ·have h1:=(e3.blk j b1 hb1).ren hkw2 hp1 (fun _=>rfl) (fun cs hcs=>(cv hm1 hb1).2.1 cs hcs) (fun ks cs hcs=>(cv hm1 hb1).2.2 ks cs hcs)
    show bq w' g2 (base + L) (be2 k) (sz2 k) _
    rw [(hnew k j hn).1,(hnew k j hn).2];exact h1
   ·show bq w' g2 (base + L) (be2 k) (sz2 k) _
    rw [(hold k ho.2.1).1,(hold k ho.2.1).2]
    refine ((CJ (frR (asc l) m0 m1) hm).blk k b hb).mono' hkw3 (Nat.le_refl _) (fun hz=>e4.others _ (.inr ⟨k,ho.1,hz,rfl,ho.2.2⟩)) fun k2 hk2 _ ha=>hM k2 (fun hf=>?_) ha
    have:=AH (frR (asc l) m0 m1) m k2 (.inl hf) k b hb
    rw [hk2] at this;cases this
  ·have hn:=e3.nof b (e5.no b (.inl hb))
   refine ⟨hn.1,hn.2.1,fun k hk hz=>?_⟩
   have hz : 0 < sz2 k:=hz
   rcases hk with ⟨j,hnw⟩|ho
   ·show be2 k ≠ b
    rw [(hnew k j hnw).2] at hz
    rw [(hnew k j hnw).1];exact hn.2.2 j ((e3.al j).2 (by rw [← bI];exact hnw.2)) hz
   ·show be2 k ≠ b
    rw [(hold k ho.2.1).2] at hz
    rw [(hold k ho.2.1).1];exact (hm.nof b hb).2.2 k ho.1 hz
 ·obtain ⟨j,h1,h2,h3⟩:=xD.1 hf
  have:=(xE hok h1 h2).1
  omega
 ·have h1:=AF (frR (asc l) m0 m1) hfr
  refine ⟨h1.1,fun i c x hc hx=>(h1.2 i c x hc hx).mono' hkw3 (Nat.le_refl _) fun k hk _ ha=>hM k (fun hf=>?_) ha⟩
  have:=AG (frR (asc l) m0 m1) fr k (.inl hf)
  rw [dJ hc hk] at this;cases this
open Go Go.RowKit
mutual
def mA : AV → Mem → (AV → Prop) → Prop
 | .own t k off n _,m,K=>b_ m k fun b=>match b with
  | .row t' l=>match tyB t' t with
   | true=>asK t' t l fun l=>off + n ≤ l.length ∧ K (.vec t ((l.drop off).take n))
   | false=>False
  | _=>False
 | .agg cs,m,K=>rQ cs m fun cs=>K (.agg cs)
 | .tup cs,m,K=>rQ cs m fun cs=>K (.tup cs)
 | .ptr _ _,_,_=>False
 | .rptr _ _ _ _,_,_=>False
 | .clo _ _ _,_,_=>False
 | .mp _,_,_=>False
 | v,_,K=>K v
def rQ : List AV → Mem → (List AV → Prop) → Prop
 | [],_,K=>K []
 | c :: r,m,K=>mA c m fun c=>rQ r m fun r=>K (c :: r)
end
def G.all (g : G) : G:={ ro:=fun b=>g.ro b ∨ ∃ k,g.al k ∧ 0 < g.sz k ∧ g.be k = b,no:=g.no,al:=fun _=>False,be:=g.be,sz:=g.sz }
theorem kP (w : World) (g : G) : dQ w w g g.all:=⟨fun _ h=>.inl h,fun _ _=>rfl⟩
theorem Rep.toVecA {w : World} {g : G} {lim : Nat} {m : Nat → Option Blk} (hm : aM w g lim m) {t : Ty} {k off n : Nat} {c : Option Nat} {l : List (El t)} (hk : m k = some (.row t l)) (hl : off + n ≤ l.length) {x : Value}
  (h : Rep w g lim (.own t k off n c) x) : Rep w g.all 0 (.vec t ((l.drop off).take n)) x:=by
 have hal : g.al k:=(hm.al k).2 (by simp [hk])
 have hv:=h.toVec hm hk hl
 have h1 : Rep w g.all 0 (.vec t ((l.drop off).take n)) x:=hv.pure rfl ⟨fun b hb=>by
  rcases hb with hb|hb
  ·exact .inl hb
  ·exact .inr ⟨k,hal,hb.1,hb.2.symm⟩,fun _ _=>rfl⟩
 exact h1
mutual
theorem Ez : ∀ (v : AV) {m : Mem} {K : AV → Prop},mA v m K → ∃ v',K v' ∧ ∀ (w : World) (g : G) (lim : Nat) (x : Value),aM w g lim (ak m) → Rep w g lim v x → Rep w g.all 0 v' x
 | .top,m,K,h=>⟨_,h,fun w g lim x _ _=>.top x⟩
 | .tt,m,K,h=>⟨_,h,fun w g lim x _ hr=>by cases hr;exact .tt⟩
 | .ff,m,K,h=>⟨_,h,fun w g lim x _ hr=>by cases hr;exact .ff⟩
 | .emp _,m,K,h=>⟨_,h,fun w g lim x _ hr=>hr.pure rfl (kP w g)⟩
 | .bl _ _,m,K,h=>⟨_,h,fun w g lim x _ hr=>hr.pure rfl (kP w g)⟩
 | .lit _,m,K,h=>⟨_,h,fun w g lim x _ hr=>by cases hr;exact .lit _⟩
 | .vec _ _,m,K,h=>⟨_,h,fun w g lim x _ hr=>hr.pure rfl (kP w g)⟩
 | .vptr _ _ _ _,m,K,h=>⟨_,h,fun w g lim x _ hr=>hr.pure rfl (kP w g)⟩
 | .ptr _ _,m,K,h=>by simp only [mA] at h
 | .rptr _ _ _ _,m,K,h=>by simp only [mA] at h
 | .clo _ _ _,m,K,h=>by simp only [mA] at h
 | .mp _,m,K,h=>by simp only [mA] at h
 | .agg cs,m,K,h=>by
  simp only [mA] at h
  obtain ⟨cs',hK,hh⟩:=oK cs h
  refine ⟨_,hK,fun w g lim x hm hr=>?_⟩
  cases hr with
  | agg _ xs hl hx=>have:=hh w g lim xs hm ⟨hl,hx⟩;exact .agg _ xs this.1 this.2
 | .tup cs,m,K,h=>by
  simp only [mA] at h
  obtain ⟨cs',hK,hh⟩:=oK cs h
  refine ⟨_,hK,fun w g lim x hm hr=>?_⟩
  cases hr with
  | tup _ xs hl hx=>have:=hh w g lim xs hm ⟨hl,hx⟩;exact .tup _ xs this.1 this.2
 | .own t k off n c,m,K,h=>by
  simp only [mA] at h
  obtain ⟨b,hb,h⟩:=bw h
  cases b with
  | box _=>exact h.elim
  | mp _ _=>exact h.elim
  | pm _ _ _=>exact h.elim
  | row t' l =>
   simp only at h
   cases ht : tyB t' t with
   | false=>rw [ht] at h;exact h.elim
   | true =>
    rw [ht] at h
    have e1:=ej ht
    subst e1
    obtain ⟨e2,h2⟩:=dK h
    exact ⟨_,h2.2,fun w g lim x hm hr=>hr.toVecA hm hb h2.1⟩
theorem oK : ∀ (cs : List AV) {m : Mem} {K : List AV → Prop},rQ cs m K → ∃ cs',K cs' ∧ ∀ (w : World) (g : G) (lim : Nat) (xs : Array Value),aM w g lim (ak m) → ax w g lim cs xs → ax w g.all 0 cs' xs
 | [],m,K,h=>⟨[],h,fun w g lim xs _ hr=>⟨hr.1,fun i c x hc=>by simp at hc⟩⟩
 | c :: r,m,K,h=>by
  simp only [rQ] at h
  obtain ⟨c',h,hc'⟩:=Ez c h
  obtain ⟨r',hK,hr'⟩:=oK r h
  refine ⟨_,hK,fun w g lim xs hm hr=>?_⟩
  obtain ⟨x,ys,hxs⟩ : ∃ x ys,xs.toList = x :: ys:=by
   cases hx : xs.toList with
   | nil=>have:=hr.1;rw [← Array.length_toList,hx] at this;simp at this
   | cons x ys=>exact ⟨x,ys,rfl⟩
  have hx2 : xs = (x :: ys).toArray:=by rw [← hxs]
  subst hx2
  have h1:=hc' w g lim x hm (hr.2 0 c x (by simp) (by simp))
  have h2:=hr' w g lim ys.toArray hm ⟨by have:=hr.1;simpa using this,fun i c2 x2 hc2 hx2=>hr.2 (i + 1) c2 x2 (by simpa using hc2) (by simpa using hx2)⟩
  exact ax.cons0 h1 h2
end
theorem aM.all {w : World} {g : G} {lim : Nat} {m : Nat → Option Blk} (h : aM w g lim m) : aM w g.all 0 (ak []):=
 ⟨fun k=>by simp [G.all,ak],fun k hk=>hk.elim,fun k hk=>hk.elim,fun k j hk=>hk.elim,fun k b hb=>by simp [ak] at hb,fun b hb=>by
  rcases hb with hb|⟨k,hk,hz,rfl⟩
  ·exact h.rolt b hb
  ·exact h.lt_heap hk hz,fun b hb=>⟨(h.nof b hb).1,fun hr=>by
   rcases hr with hr|⟨k,hk,hz,e⟩
   ·exact (h.nof b hb).2.1 hr
   ·exact (h.nof b hb).2.2 k hk hz e,fun k hk=>hk.elim⟩⟩
def rdK (ρ : Nat → Nat) (m : Mem) : Mem → Prop
 | []=>True
 | (k,b) :: r=>ak m (ρ k) = some (fw ρ b) ∧ rdK ρ m r
theorem ux {ρ : Nat → Nat} {m : Mem} : ∀ {m0 : Mem},rdK ρ m m0 → ∀ p ∈ rdR ρ m0,ak m p.1 = some p.2
 | [],_,p,hp=>by simp [rdR] at hp
 | (k,b) :: r,h,p,hp=>by
  simp only [rdR,List.mem_cons] at hp
  rcases hp with rfl|hp
  ·exact h.1
  ·exact ux h.2 p hp
def qr (l : List (Nat × Nat)) (m0 : Mem) (v : AV) (m1 : Mem) : aD:=⟨bK (asc l) v,rdR (asc l) m0,lL (dlR (asc l) m0) (ptR (asc l) m1),frR (asc l) m0 m1⟩
def jX : List (Nat × Nat) → Nat → (Nat → Prop) → Prop
 | [],_,K=>K 0
 | (i,a) :: r,k,K=>match Nat.beq i k with|true=>K a|false=>jX r k K
theorem gX (l : List (Nat × Nat)) (k : Nat) (K : Nat → Prop) : jX l k K = K (asc l k):=by
 induction l with
 | nil=>rfl
 | cons p r ih =>
  obtain ⟨i,a⟩:=p
  simp only [jX,asc]
  cases Nat.beq i k with
  | true=>rfl
  | false=>exact ih
mutual
def dP (l : List (Nat × Nat)) : AV → (AV → Prop) → Prop
 | .own t k o n c,K=>jX l k fun k=>K (.own t k o n c)
 | .ptr k o,K=>jX l k fun k=>K (.ptr k o)
 | .rptr t k i o,K=>jX l k fun k=>K (.rptr t k i o)
 | .mp k,K=>jX l k fun k=>K (.mp k)
 | .agg cs,K=>i9 l cs fun cs=>K (.agg cs)
 | .tup cs,K=>i9 l cs fun cs=>K (.tup cs)
 | .clo f a b,K=>i9 l a fun a=>i9 l b fun b=>K (.clo f a b)
 | v,K=>K v
def i9 (l : List (Nat × Nat)) : List AV → (List AV → Prop) → Prop
 | [],K=>K []
 | c :: r,K=>dP l c fun c=>i9 l r fun r=>K (c :: r)
end
mutual
theorem uy (l : List (Nat × Nat)) : ∀ (v : AV) (K : AV → Prop),dP l v K = K (bK (asc l) v)
 | .own _ _ _ _ _,K=>by simp only [dP,bK,gX]
 | .ptr _ _,K=>by simp only [dP,bK,gX]
 | .rptr _ _ _ _,K=>by simp only [dP,bK,gX]
 | .mp _,K=>by simp only [dP,bK,gX]
 | .agg cs,K=>by simp only [dP,bK];rw [gM l cs]
 | .tup cs,K=>by simp only [dP,bK];rw [gM l cs]
 | .clo f a b,K=>by simp only [dP,bK];rw [gM l a,gM l b]
 | .top,K=>by simp only [dP,bK]
 | .tt,K=>by simp only [dP,bK]
 | .ff,K=>by simp only [dP,bK]
 | .bl _ _,K=>by simp only [dP,bK]
 | .emp _,K=>by simp only [dP,bK]
 | .lit _,K=>by simp only [dP,bK]
 | .vec _ _,K=>by simp only [dP,bK]
 | .vptr _ _ _ _,K=>by simp only [dP,bK]
theorem gM (l : List (Nat × Nat)) : ∀ (cs : List AV) (K : List AV → Prop),i9 l cs K = K (dc (asc l) cs)
 | [],K=>by simp only [i9,dc]
 | c :: r,K=>by simp only [i9,dc];rw [uy l c,gM l r]
end
def qs (l : List (Nat × Nat)) (b : Blk) (K : Blk → Prop) : Prop:=match b with
 | .box cs=>i9 l cs fun cs=>K (.box cs)
 | .row t x=>K (.row t x)
 | .mp ks cs=>i9 l cs fun cs=>K (.mp ks cs)
 | .pm ik F n=>K (.pm ik F n)
theorem uz (l : List (Nat × Nat)) (b : Blk) (K : Blk → Prop) : qs l b K = K (fw (asc l) b):=by
 cases b with
 | box cs=>simp only [qs,fw];rw [gM]
 | row t x=>rfl
 | mp ks cs=>simp only [qs,fw];rw [gM]
 | pm ik F n=>rfl
def yH (l : List (Nat × Nat)) : Mem → (List (Nat × Blk) → Prop) → Prop
 | [],K=>K []
 | (k,b) :: r,K=>jX l k fun k=>qs l b fun b=>yH l r fun r=>K ((k,b) :: r)
theorem xG (l : List (Nat × Nat)) : ∀ (m : Mem) (K : List (Nat × Blk) → Prop),yH l m K = K (rdR (asc l) m)
 | [],K=>rfl
 | (k,b) :: r,K=>by simp only [yH,rdR,gX,uz];rw [xG l r]
def pO (l : List (Nat × Nat)) (m1 : Mem) : Mem → (List (Nat × Option Blk) → Prop) → Prop
 | [],K=>ptRK l m1 K
 | (k,_) :: r,K=>jX l k fun k=>pO l m1 r fun r=>K ((k,none) :: r)
where ptRK (l : List (Nat × Nat)) : Mem → (List (Nat × Option Blk) → Prop) → Prop
 | [],K=>K []
 | (k,b) :: r,K=>jX l k fun k=>qs l b fun b=>ptRK l r fun r=>K ((k,some b) :: r)
theorem xH (l : List (Nat × Nat)) : ∀ (m : Mem) (K : List (Nat × Option Blk) → Prop),pO.ptRK l m K = K (ptR (asc l) m)
 | [],K=>rfl
 | (k,b) :: r,K=>by simp only [pO.ptRK,ptR,gX,uz];rw [xH l r]
theorem xI (l : List (Nat × Nat)) (m1 : Mem) : ∀ (m : Mem) (K : List (Nat × Option Blk) → Prop),pO l m1 m K = K (lL (dlR (asc l) m) (ptR (asc l) m1))
 | [],K=>by simp only [pO,dlR,lL];exact xH l m1 K
 | (k,b) :: r,K=>by simp only [pO,dlR,lL,gX];rw [xI l m1 r]
def uA (l : List (Nat × Nat)) (m0 : Mem) : Mem → (List Nat → Prop) → Prop
 | [],K=>K []
 | (k,_) :: r,K=>match bo m0 k with
  | true=>uA l m0 r K
  | false=>jX l k fun k=>uA l m0 r fun r=>K (k :: r)
theorem rR (l : List (Nat × Nat)) (m0 : Mem) : ∀ (m : Mem) (K : List Nat → Prop),uA l m0 m K = K (frR (asc l) m0 m)
 | [],K=>rfl
 | (k,b) :: r,K=>by
  simp only [uA,frR]
  cases bo m0 k with
  | true=>exact rR l m0 r K
  | false=>simp only [gX];rw [rR l m0 r]
def l8 (l : List (Nat × Nat)) (m0 : Mem) (v : AV) (m1 : Mem) (K : aD → Prop) : Prop:=
 dP l v fun v=>yH l m0 fun rd=>pO l m1 m0 fun up=>uA l m0 m1 fun fr=>K ⟨v,rd,up,fr⟩
theorem sH (l : List (Nat × Nat)) (m0 : Mem) (v : AV) (m1 : Mem) (K : aD → Prop) : l8 l m0 v m1 K = K (qr l m0 v m1):=by
 unfold l8 qr
 rw [uy,xG,xI,rR]
theorem FA {P : Program} {base : Nat} {fid : FuncId} {args args' : List AV} {m0 m1 : Mem} {v : AV} (h : Ev1 P fid args m0 v m1) (l : List (Nat × Nat)) {f : List AV} {m : Mem} {d : Option Nat} {K : List AV → Mem → Prop} {J : Prop}
  (hargs : dc (asc l) args = args') (hrd : rdK (asc l) m m0) (hok : oJ base l args m0 v m1 = true) (hK : l8 l m0 v m1 fun c=>dV c f m d K) :
  (∃ c : aD,(∀ p ∈ c.rd,ak m p.1 = some p.2) ∧ fI P base fid args' c ∧ dV c f m d K) ∨ J:=by
 rw [sH] at hK
 exact .inl ⟨qr l m0 v m1,ux hrd,by rw [← hargs];exact h.cact base l hok,hK⟩
theorem EA {P : Program} {base : Nat} {fid : FuncId} {args args' : List AV} {m0 m1 : Mem} {v : AV} (h : Ev1 P fid args m0 v m1) (l : List (Nat × Nat)) {m : Mem} {K : aD → Prop}
  (hargs : dc (asc l) args = args') (hrd : rdK (asc l) m m0) (hok : oJ base l args m0 v m1 = true) (hK : l8 l m0 v m1 K) :
  ∃ c : aD,(∀ p ∈ c.rd,ak m p.1 = some p.2) ∧ fI P base fid args' c ∧ K c:=by
 rw [sH] at hK
 exact ⟨qr l m0 v m1,ux hrd,by rw [← hargs];exact h.cact base l hok,hK⟩
theorem CK {P : Program} {base : Nat} {fid : FuncId} {args : List AV} {v : AV} (h : Api P fid args v) {m : Mem} {K : aD → Prop} (ha : d8 args = true) (hv : eG v = true) (hK : K (vA v)) :
  ∃ c : aD,(∀ p ∈ c.rd,ak m p.1 = some p.2) ∧ fI P base fid args c ∧ K c:=
 ⟨vA v,by simp [vA],h.cact ha hv base,hK⟩
theorem Le.ownE {t : Ty} {k o n : Nat} (h : n = 0) : Le (.own t k o n (some 0)) (.emp t):=fun _ _ _ _ hr=>by
 subst h
 cases hr with
 | own _ _ _ _ b cap _ hk hc hcc hh=>obtain rfl:=hcc 0 rfl;exact .emp _ _
 | ownE _ _ _ _ ad hk hcc=>exact .emp _ _
theorem Le.vec {t : Ty} {l l' : List (El t)} (h : l = l') : Le (.vec t l) (.vec t l'):=by subst h;exact Le.refl _
theorem Le.emp (t : Ty) : Le (.emp t) (.vec t []):=fun _ _ _ _ hr=>by cases hr;exact .vecE _ _ _
theorem Le.own {t : Ty} {k o n n' : Nat} {c : Option Nat} (h : n = n') : Le (.own t k o n c) (.own t k o n' c):=by subst h;exact Le.refl _
theorem Le.nil (t : Ty) : Le (.lit (.slice none 0 0)) (.vec t []):=fun _ _ _ _ hr=>by cases hr;exact .vecE _ _ _
open Go Go.RowKit
mutual
def i_ : AV → Bool
 | .tt=>true
 | .ff=>true
 | .top=>true
 | .lit _=>true
 | .bl _ _=>true
 | .emp _=>true
 | .agg cs=>nD cs
 | .tup cs=>nD cs
 | _=>false
def nD : List AV → Bool
 | []=>true
 | c :: r=>match i_ c with|true=>nD r|false=>false
end
theorem qt {cs : List AV} (h : nD cs = true) {i : Nat} {c : AV} (hc : cs[i]? = some c) : i_ c = true:=by
 induction cs generalizing i with
 | nil=>simp at hc
 | cons a r ih =>
  simp only [nD] at h
  cases ha : i_ a with
  | false=>rw [ha] at h;cases h
  | true =>
   rw [ha] at h
   cases i with
   | zero=>simp at hc;subst hc;exact ha
   | succ i=>simp at hc;exact ih h hc
theorem Rep.scal {w w' : World} {g g' : G} {lim lim' : Nat} {v : AV} {x : Value} (h : Rep w g lim v x) (hs : i_ v = true) : Rep w' g' lim' v x:=by
 induction h with
 | top x=>exact .top x
 | tt=>exact .tt
 | ff=>exact .ff
 | emp t a=>exact .emp t a
 | bl p q b h1 h2=>exact .bl p q b h1 h2
 | lit v=>exact .lit v
 | agg cs xs hl h ih=>exact .agg cs xs hl fun i c x hc hx=>ih i c x hc hx (qt (by simpa [i_] using hs) hc)
 | tup cs xs hl h ih=>exact .tup cs xs hl fun i c x hc hx=>ih i c x hc hx (qt (by simpa [i_] using hs) hc)
 | _=>cases hs
theorem Api.lend {P : Program} {fid : FuncId} {args argsV : List AV} {m0 : Mem} {v : AV} (h : Api P fid argsV v) (hf : rQ args m0 fun a=>a = argsV) (hv : i_ v = true) : Ev1 P fid args m0 v m0:=by
 intro w g vs hm ha
 obtain ⟨a',rfl,hr⟩:=oK args hf
 refine (h w g.all vs hm.all (hr w g L vs hm ha)).mono fun e w' ⟨x,g',e1,e2,e3,e4,e5⟩=>?_
 let g2 : G:={ ro:=fun b=>g'.ro b ∧ ∀ k,g.al k → 0 < g.sz k → g.be k ≠ b,no:=g.no,al:=g.al,be:=g.be,sz:=g.sz }
 have hbe : ∀ k,g.al k → 0 < g.sz k → w'.heap[g.be k]? = w.heap[g.be k]?:=fun k hk hz=>e4.same _ (.inr ⟨k,hk,hz,rfl⟩)
 have hkeep : dQ w w' g g2:=⟨fun b hb=>⟨e5.ro b (.inl hb),fun k hk hz e=>hm.nro k hk hz (e ▸ hb)⟩,fun b hb=>e4.same b (.inl hb)⟩
 refine ⟨x,g2,e1,e2.scal hv,?_,⟨e4.os,e4.tape,e4.output,e4.size,fun b hb=>e4.same b (.inl hb),fun b hb=>e4.others b hb⟩,⟨hkeep.ro,fun _ h=>h,fun _ _ ha=>⟨ha,rfl,rfl⟩⟩⟩
 refine ⟨hm.al,hm.lt,fun k hk hz hro=>hro.2 k hk hz rfl,hm.inj,fun k b hb=>?_,fun b hb=>e3.rolt b hb.1,fun b hb=>?_⟩
 ·have hal:=(hm.al k).2 (by simp [hb])
  exact (hm.blk k b hb).mono' hkeep (Nat.le_refl _) (hbe k hal) fun _ _ _ ha=>⟨ha,rfl,rfl⟩
 ·have hn:=e3.nof b (e5.no b hb)
  exact ⟨hn.1,fun hro=>hn.2.1 hro.1,(hm.nof b hb).2.2⟩
theorem Le.cap {t : Ty} {k o n : Nat} {c : Option Nat} : Le (.own t k o n c) (.own t k o n none):=fun _ _ _ _ hr=>by
 cases hr with
 | own _ _ _ _ b cap _ hk hc hcc hh=>exact .own _ _ _ _ b cap none hk hc (fun n h=>by cases h) hh
 | ownE _ _ _ _ ad hk hcc=>exact .ownE _ _ _ _ ad hk (fun n h=>by cases h)
theorem Ev1.cap {P : Program} {fid : FuncId} {t : Ty} {k o n : Nat} {rest : List AV} {m0 m1 : Mem} {v : AV} (h : ∀ c,n ≤ c → Ev1 P fid (.own t k o n (some c) :: rest) m0 v m1) : Ev1 P fid (.own t k o n none :: rest) m0 v m1:=by
 intro w g vs hm ha
 have hlt : 0 < vs.size:=by have:=ha.1;simp at this;omega
 have h0:=ha.2 0 (.own t k o n none) vs[0] (by simp) (Array.getElem?_eq_getElem hlt)
 generalize hx : vs[0] = x at h0
 have key : ∀ cap,n ≤ cap → Rep w g L (.own t k o n (some cap)) x → Calls P fid vs w fun e w'=>∃ x g',e = .returned x ∧ Rep w' g' L v x ∧ aM w' g' L (ak m1) ∧ Tr g w w' ∧ LeG L g g':=by
  intro cap hc hr
  refine h cap hc w g vs hm ⟨ha.1,fun i c x hci hxi=>?_⟩
  cases i with
  | zero =>
   simp at hci;subst hci
   rw [Array.getElem?_eq_getElem hlt,hx] at hxi
   cases hxi
   exact hr
  | succ i=>exact ha.2 (i + 1) c x (by simpa using hci) hxi
 cases h0 with
 | own _ _ _ _ b cap _ hk hc hcc hh=>exact key cap hc (.own _ _ _ _ b cap _ hk hc (fun n h=>by cases h;rfl) hh)
 | ownE _ _ _ _ ad hk hcc=>exact key 0 (Nat.le_refl _) (.ownE _ _ _ _ ad hk (fun n h=>by cases h;rfl))
open Go Go.RowKit
def gt (base j : Nat) (m : Mem) (oth : List AV) : Bool:=
 match Nat.beq (j % 2) 1 with
 | true=>match Nat.ble base j with
  | true=>match bo m j with
   | true=>false
   | false=>match un j m with
    | true=>match b8 j oth with|true=>false|false=>true
    | false=>false
  | false=>false
 | false=>false
theorem nE {base j : Nat} {m : Mem} {oth : List AV} (h : gt base j m oth = true) : j % 2 = 1 ∧ base ≤ j ∧ ak m j = none ∧ (∀ i b,ak m i = some b → dT j b = false) ∧ b8 j oth = false:=by
 unfold gt at h
 split at h
 ·rename_i h1
  split at h
  ·rename_i h2
   split at h
   ·cases h
   ·rename_i h3
    split at h
    ·rename_i h4
     split at h
     ·cases h
     ·rename_i h5
      refine ⟨nbt.1 h1,Nat.le_of_ble_eq_true h2,?_,rP h4,h5⟩
      rw [bI] at h3
      cases hm : ak m j with
      | none=>rfl
      | some b=>rw [hm] at h3;cases h3
    ·cases h
  ·cases h
 ·cases h
mutual
def fE (base : Nat) (tgt : Mem) (oth : List AV) : AV → AV → Mem → (Mem → Prop) → Prop
 | .own t k off n _,e,m,K=>match e with
  | .own t2 j o2 n2 c2=>match c2 with
   | some _=>False
   | none=>match Nat.beq o2 0 with
    | false=>False
    | true=>match Nat.beq off 0 with
     | false=>False
     | true=>match tyB t t2 with
      | false=>False
      | true=>b_ m k fun b=>match b with
       | .box _=>False
       | .mp _ _=>False
       | .pm _ _ _=>False
       | .row t' l=>match tyB t' t with
        | false=>False
        | true=>b_ tgt j fun b2=>match b2 with
         | .box _=>False
         | .mp _ _=>False
         | .pm _ _ _=>False
         | .row t3 l2=>asK t' t2 l fun l=>asK t3 t2 l2 fun l2=>(n = n2 ∧ n ≤ l.length ∧ l.take n = l2) ∧
          match Nat.beq k j with
          | true=>jb m j (.row t2 l2) K
          | false=>match gt base j m oth with
           | true=>jA m k fun m=>jb m j (.row t2 l2) K
           | false=>False
  | .vec t2 l2=>match tyB t t2 with
   | false=>False
   | true=>b_ m k fun b=>match b with
    | .box _=>False
    | .mp _ _=>False
    | .pm _ _ _=>False
    | .row t' l=>match tyB t' t with
     | false=>False
     | true=>asK t' t2 l fun l=>(off + n ≤ l.length ∧ (l.drop off).take n = l2) ∧ jA m k K
  | .top=>K m
  | _=>False
 | .emp _,e,m,K=>match e with
  | .own t2 j o2 n2 c2=>match c2 with
   | some _=>False
   | none=>b_ tgt j fun b2=>match b2 with
    | .box _=>False
    | .mp _ _=>False
    | .pm _ _ _=>False
    | .row t3 l2=>asK t3 t2 l2 fun l2=>(n2 = 0 ∧ l2 = []) ∧ match gt base j m oth with
     | true=>match Nat.beq o2 0 with|true=>jb m j (.row t2 l2) K|false=>False
     | false=>False
  | .vec _ l2=>l2 = [] ∧ K m
  | .emp _=>K m
  | .top=>K m
  | _=>False
 | .lit x,e,m,K=>match e with
  | .lit y=>x = y ∧ K m
  | .top=>K m
  | .bl p q=>match x with
   | .bool b=>((b = true → p) ∧ (b = false → q)) ∧ K m
   | _=>False
  | .own t2 j o2 n2 c2=>match x with
   | .slice none 0 0=>match c2 with
    | some _=>False
    | none=>b_ tgt j fun b2=>match b2 with
     | .box _=>False
     | .mp _ _=>False
     | .pm _ _ _=>False
     | .row t3 l2=>asK t3 t2 l2 fun l2=>(n2 = 0 ∧ l2 = []) ∧ match gt base j m oth with
      | true=>match Nat.beq o2 0 with|true=>jb m j (.row t2 l2) K|false=>False
      | false=>False
   | _=>False
  | .vec _ l2=>match x with
   | .slice none 0 _=>l2 = [] ∧ K m
   | _=>False
  | .emp _=>match x with
   | .slice none 0 0=>K m
   | _=>False
  | .tt=>x = .bool true ∧ K m
  | .ff=>x = .bool false ∧ K m
  | _=>False
 | .vec t l,e,m,K=>match e with
  | .vec t2 l2=>asK t t2 l fun l=>l = l2 ∧ K m
  | .top=>K m
  | _=>False
 | .tt,e,m,K=>match e with
  | .tt=>K m
  | .lit y=>y = .bool true ∧ K m
  | .bl p _=>p ∧ K m
  | .top=>K m
  | _=>False
 | .ff,e,m,K=>match e with
  | .ff=>K m
  | .lit y=>y = .bool false ∧ K m
  | .bl _ q=>q ∧ K m
  | .top=>K m
  | _=>False
 | .bl p q,e,m,K=>match e with
  | .lit y=>match y with
   | .bool b=>((p → b = true) ∧ (q → b = false)) ∧ K m
   | _=>False
  | .bl p' q'=>((p → p') ∧ (q → q')) ∧ K m
  | .top=>K m
  | _=>False
 | .ptr k o,e,m,K=>match e with
  | .ptr k2 o2=>match Nat.beq k k2 with
   | true=>match Nat.beq o o2 with|true=>K m|false=>False
   | false=>False
  | .top=>K m
  | _=>False
 | .agg cs,e,m,K=>match e with
  | .agg es=>lM base tgt oth cs es m K
  | .top=>K m
  | _=>False
 | .tup cs,e,m,K=>match e with
  | .tup es=>lM base tgt oth cs es m K
  | .top=>K m
  | _=>False
 | v,e,m,K=>match e with
  | .top=>K m
  | e=>v = e ∧ K m
def lM (base : Nat) (tgt : Mem) (oth : List AV) : List AV → List AV → Mem → (Mem → Prop) → Prop
 | [],es,m,K=>match es with
  | []=>K m
  | _=>False
 | c :: r,es,m,K=>match es with
  | e :: es=>fE base tgt (r ++ oth) c e m fun m=>lM base tgt (e :: oth) r es m K
  | []=>False
end
def aW (base : Nat) (oth : List AV) (m m2 : Mem) (V : World → G → Nat → Prop) (V' : World → G → Nat → Prop) : Prop:=
 (∀ k cs,ak m k = some (.box cs) → ∃ cs',ak m2 k = some (.box cs')) ∧
 ∀ (w : World) (g : G) (lim : Nat),aM w g lim (ak m) → ∃ g2,aM w g2 lim (ak m2) ∧ LeG base g g2 ∧ (V w g lim → V' w g2 lim) ∧
  (∀ (u : AV) (y : Value),u ∈ oth → Rep w g lim u y → Rep w g2 lim u y) ∧ ∀ k cs,ak m k = some (.box cs) → g2.be k = g.be k ∧ g2.sz k = g.sz k
theorem aW.same {base : Nat} {oth : List AV} {m : Mem} {V V' : World → G → Nat → Prop} (h : ∀ w g lim,V w g lim → V' w g lim) : aW base oth m m V V':=
 ⟨fun _ cs h=>⟨cs,h⟩,fun w g lim hm=>⟨g,hm,LeG.refl base g,h w g lim,fun _ _ _ h=>h,fun _ _ _=>⟨rfl,rfl⟩⟩⟩
theorem uB {k : Nat} {l : List AV} (h : b8 k l = false) {u : AV} (hu : u ∈ l) : men k u = false:=by
 cases hm : men k u with
 | false=>rfl
 | true =>
  obtain ⟨i,hi⟩:=List.getElem?_of_mem hu
  rw [dJ hi hm] at h;cases h
theorem aM.cut {w : World} {g : G} {lim : Nat} {m : Nat → Option Blk} (h : aM w g lim m) (k : Nat) {t : Ty} {l : List (El t)} (hk : m k = some (.row t l)) (n : Nat) : aM w g lim (Eng.put m k (some (.row t (l.take n)))):=by
 refine ⟨fun j=>?_,h.lt,h.nro,h.inj,fun j b hb=>?_,h.rolt,h.nof⟩
 ·by_cases hjk : k = j
  ·subst hjk;simp [Eng.put,(h.al k).2 (by simp [hk])]
  ·simp [Eng.put,hjk,h.al j]
 ·by_cases hjk : k = j
  ·subst hjk;rw [eI] at hb;cases hb
   rcases h.blk k _ hk with ⟨h0,e⟩|⟨h0,c,ty,h1,h2,h3,h4⟩
   ·exact .inl ⟨h0,by rw [e];simp⟩
   ·refine .inr ⟨h0,c,ty,h1,h2,?_,fun i a x hi hx=>h4 i a x ?_ hx⟩
    ·rw [ez,List.length_take];omega
    ·rw [ez,List.getElem?_take] at hi
     split at hi
     ·exact hi
     ·cases hi
  ·rw [cU _ _ hjk] at hb;exact h.blk j b hb
theorem xJ {base : Nat} {oth : List AV} {m m2 : Mem} {t : Ty} {k j n : Nat} {c : Option Nat} {l : List (El t)} (hb : ak m k = some (.row t l))
  (hj : (k = j ∧ ak m2 = put (ak m) j (some (.row t (l.take n)))) ∨ (gt base j m oth = true ∧ ak m2 = put (put (ak m) k none) j (some (.row t (l.take n))))) (x : Value) :
  aW base oth m m2 (fun w g lim=>Rep w g lim (.own t k 0 n c) x) (fun w g lim=>Rep w g lim (.own t j 0 n none) x):=by
 refine ⟨fun i cs hi=>⟨cs,?_⟩,?_⟩
 ·have hik : k ≠ i:=fun e=>by rw [e,hi] at hb;cases hb
  rcases hj with ⟨rfl,e⟩|⟨hf,e⟩
  ·rw [e,cU _ _ hik];exact hi
  ·obtain ⟨f1,f2,f3,f4,f5⟩:=nE hf
   rw [e,cU _ _ (fun e=>by rw [e,hi] at f3;cases f3),cU _ _ hik];exact hi
 intro w g lim hm
 have hc:=hm.cut k hb n
 rcases hj with ⟨rfl,e⟩|⟨hf,e⟩
 ·rw [e]
  exact ⟨g,hc,LeG.refl base g,fun h=>Le.cap _ _ _ _ h,fun _ _ _ h=>h,fun _ _ _=>⟨rfl,rfl⟩⟩
 ·obtain ⟨f1,f2,f3,f4,f5⟩:=nE hf
  have hren:=hc.ren (j:=j) (.inr f1) (k:=k) (bl:=.row t (l.take n)) (eI _ _ _) (fun i b hbi=>by
   simp only [put] at hbi
   split at hbi
   ·cases hbi;rfl
   ·exact f4 i b hbi)
  have e2 : put (put (put (ak m) k (some (.row t (l.take n)))) k none) j (some (.row t (l.take n))) = ak m2:=by
   rw [e];funext i;simp only [put];split
   ·rfl
   ·split<;>rfl
  rw [e2] at hren
  refine ⟨g.ren k j,hren,LeG.ren f2,fun h=>?_,fun u y hu hr=>?_,fun i cs hi=>?_⟩
  ·have hal : g.al k:=(hm.al k).2 (by simp [hb])
   cases h with
   | own _ _ _ _ b cap _ hk hcc hc2 hh =>
    obtain ⟨rfl,h9⟩:=hh hal
    exact .own t j 0 n _ cap none (.inr f1) hcc (fun n h=>by cases h) fun _=>⟨by simp [G.ren,G.bind],by simp [G.ren,G.bind,G.kill];simpa using h9⟩
   | ownE _ _ _ _ ad hk hcc=>exact .ownE t j 0 none ad (.inr f1) (fun n h=>by cases h)
  ·have:=(ax.ren (w:=w) (g:=g) (lim:=lim) (k:=k) (j:=j) (f:=[u]) (xs:=#[y]) ⟨rfl,fun i c x hc hx=>by
    cases i with
    | zero=>simp at hc hx;subst hc;subst hx;exact hr
    | succ i=>simp at hc⟩ (by simp only [b8];rw [uB f5 hu]))
   exact this.2 0 u y (by simp) (by simp)
  ·have hij : i ≠ j:=fun e=>by rw [e,f3] at hi;cases hi
   exact ⟨by simp [G.ren,G.bind,G.kill,hij],by simp [G.ren,G.bind,G.kill,hij]⟩
theorem AJ {base : Nat} {oth : List AV} {m m2 : Mem} {t : Ty} {j : Nat} (hf : gt base j m oth = true) (e : ak m2 = put (ak m) j (some (.row t []))) (ad : Option Addr) (V : World → G → Nat → Prop) :
  aW base oth m m2 V (fun w g lim=>Rep w g lim (.own t j 0 0 none) (.slice ad 0 0)):=by
 obtain ⟨f1,f2,f3,f4,f5⟩:=nE hf
 refine ⟨fun i cs hi=>⟨cs,?_⟩,?_⟩
 ·rw [e,cU _ _ (fun e=>by rw [e,hi] at f3;cases f3)];exact hi
 intro w g lim hm
 have hb:=hm.birth t (.inr f1) f4
 rw [← e] at hb
 refine ⟨g.bind j 0 0,hb,LeG.bind base g f2 _ _,fun _=>.ownE t j 0 none ad (.inr f1) (fun n h=>by cases h),fun u y hu hr=>hr.bind (uB f5 hu) fun _ _=>rfl,fun i cs hi=>?_⟩
 have hij : i ≠ j:=fun e=>by rw [e,f3] at hi;cases hi
 exact ⟨by simp [G.bind,hij],by simp [G.bind,hij]⟩
theorem EC {base : Nat} {oth : List AV} {m m2 : Mem} {t : Ty} {k off n : Nat} {c : Option Nat} {l : List (El t)} (hb : ak m k = some (.row t l)) (hl : off + n ≤ l.length)
  (e : ak m2 = put (ak m) k none) (x : Value) :
  aW base oth m m2 (fun w g lim=>Rep w g lim (.own t k off n c) x) (fun w g lim=>Rep w g lim (.vec t ((l.drop off).take n)) x):=by
 refine ⟨fun i cs hi=>⟨cs,?_⟩,?_⟩
 ·rw [e,cU _ _ (fun e=>by rw [e,hi] at hb;cases hb)];exact hi
 intro w g lim hm
 have hal : g.al k:=(hm.al k).2 (by simp [hb])
 have hf:=hm.freeze hal
 rw [← e] at hf
 exact ⟨g.freeze k,hf,LeG.freeze base g k,fun h=>h.toVec hm hb hl,fun u y _ hr=>hr.freeze k,fun _ _ _=>⟨rfl,rfl⟩⟩
theorem aW.repv {base : Nat} {oth : List AV} {m : Mem} {v e : AV} (h : Le v e) (x : Value) : aW base oth m m (fun w g lim=>Rep w g lim v x) (fun w g lim=>Rep w g lim e x):=
 aW.same fun _ _ _ hr=>h _ _ _ _ hr
theorem nbz {a : Nat} (h : Nat.beq a 0 = true) : a = 0:=nbt.1 h
theorem xK {base : Nat} {tgt : Mem} {oth : List AV} {m : Mem} {t2 : Ty} {j o2 n2 : Nat} {K : Mem → Prop}
  (h : b_ tgt j fun b2=>match b2 with
   | .box _=>False
   | .mp _ _=>False
   | .pm _ _ _=>False
   | .row t3 l2=>asK t3 t2 l2 fun l2=>(n2 = 0 ∧ l2 = []) ∧ match gt base j m oth with
    | true=>match Nat.beq o2 0 with|true=>jb m j (.row t2 l2) K|false=>False
    | false=>False) :
  ∃ m2,K m2 ∧ ∀ (ad : Option Addr) (V : World → G → Nat → Prop),aW base oth m m2 V (fun w g lim=>Rep w g lim (.own t2 j o2 n2 none) (.slice ad 0 0)):=by
 obtain ⟨b2,hb2,ha⟩:=bw h
 clear h
 cases b2 with
 | box _=>exact ha.elim
 | mp _ _=>exact ha.elim
 | pm _ _ _=>exact ha.elim
 | row t3 l2 =>
  simp only at ha
  obtain ⟨e1,hc⟩:=dK ha
  clear ha
  subst e1
  obtain ⟨⟨rfl,e2⟩,hd⟩:=hc
  cases hf : gt base j m oth with
  | false=>rw [hf] at hd;exact hd.elim
  | true =>
   rw [hf] at hd
   simp only at hd
   cases ho : Nat.beq o2 0 with
   | false=>rw [ho] at hd;exact hd.elim
   | true =>
    rw [ho] at hd
    have:=nbz ho
    subst this
    simp only at hd
    rw [j8] at hd
    have e3 : l2 = []:=e2
    subst e3
    exact ⟨_,hd,fun ad V=>AJ hf (by rw [ix]) ad V⟩
mutual
theorem ED {base : Nat} {tgt : Mem} : ∀ (v : AV) {oth : List AV} {e : AV} {m : Mem} {K : Mem → Prop},fE base tgt oth v e m K →
  ∃ m2,K m2 ∧ ∀ x,aW base oth m m2 (fun w g lim=>Rep w g lim v x) (fun w g lim=>Rep w g lim e x)
 | .own t k off n c,oth,e,m,K,h=>by
  cases e<;>simp only [fE] at h<;>try exact h.elim
  case top=>exact ⟨m,h,fun x=>aW.same fun _ _ _ _=>.top x⟩
  case own t2 j o2 n2 c2 =>
   cases c2 with
   | some _=>exact h.elim
   | none =>
   simp only at h
   cases h1 : Nat.beq o2 0 with
   | false=>rw [h1] at h;exact h.elim
   | true =>
   rw [h1] at h
   cases h2 : Nat.beq off 0 with
   | false=>rw [h2] at h;exact h.elim
   | true =>
   rw [h2] at h
   cases h3 : tyB t t2 with
   | false=>rw [h3] at h;exact h.elim
   | true =>
   rw [h3] at h
   have e1:=nbz h1;have e2:=nbz h2;have e3:=ej h3
   subst e1;subst e2;subst e3
   simp only at h
   obtain ⟨b,hb,ha⟩:=bw h
   clear h
   cases b with
   | box _=>exact ha.elim
   | mp _ _=>exact ha.elim
   | pm _ _ _=>exact ha.elim
   | row t' l =>
   simp only at ha
   cases h4 : tyB t' t with
   | false=>rw [h4] at ha;exact ha.elim
   | true =>
   rw [h4] at ha
   have e4:=ej h4
   subst e4
   simp only at ha
   obtain ⟨b2,hb2,hc⟩:=bw ha
   clear ha
   cases b2 with
   | box _=>exact hc.elim
   | mp _ _=>exact hc.elim
   | pm _ _ _=>exact hc.elim
   | row t3 l2 =>
   simp only at hc
   obtain ⟨e5,hd⟩:=dK hc
   clear hc
   obtain ⟨e6,he⟩:=dK hd
   clear hd
   subst e6
   obtain ⟨⟨rfl,hle,hl⟩,hf⟩:=he
   have hl' : l.take n = l2:=hl
   subst hl'
   cases h5 : Nat.beq k j with
   | true =>
    rw [h5] at hf
    have e7:=nbt.1 h5
    subst e7
    simp only at hf
    rw [j8] at hf
    exact ⟨_,hf,fun x=>xJ hb (.inl ⟨rfl,by rw [ix]⟩) x⟩
   | false =>
    rw [h5] at hf
    simp only at hf
    cases h6 : gt base j m oth with
    | false=>rw [h6] at hf;exact hf.elim
    | true =>
     rw [h6] at hf
     simp only at hf
     rw [j9,j8] at hf
     exact ⟨_,hf,fun x=>xJ hb (.inr ⟨h6,by rw [ix,gf]⟩) x⟩
  case vec t2 l2 =>
   cases h3 : tyB t t2 with
   | false=>rw [h3] at h;exact h.elim
   | true =>
   rw [h3] at h
   have e3:=ej h3
   subst e3
   simp only at h
   obtain ⟨b,hb,ha⟩:=bw h
   clear h
   cases b with
   | box _=>exact ha.elim
   | mp _ _=>exact ha.elim
   | pm _ _ _=>exact ha.elim
   | row t' l =>
   simp only at ha
   cases h4 : tyB t' t with
   | false=>rw [h4] at ha;exact ha.elim
   | true =>
   rw [h4] at ha
   have e4:=ej h4
   subst e4
   simp only at ha
   obtain ⟨e5,⟨hle,hl⟩,hc⟩:=dK ha
   clear ha
   have hl' : (l.drop off).take n = l2:=hl
   subst hl'
   rw [j9] at hc
   exact ⟨_,hc,fun x=>EC hb hle (by rw [gf]) x⟩
 | .emp t,oth,e,m,K,h=>by
  cases e<;>simp only [fE] at h<;>try exact h.elim
  case top=>exact ⟨m,h,fun x=>aW.same fun _ _ _ _=>.top x⟩
  case emp t2=>exact ⟨m,h,fun x=>aW.repv (fun _ _ _ _ hr=>by cases hr;exact .emp _ _) x⟩
  case vec t2 l2 =>
   obtain ⟨rfl,h⟩:=h
   exact ⟨m,h,fun x=>aW.repv (fun _ _ _ _ hr=>by cases hr;exact .vecE _ _ _) x⟩
  case own t2 j o2 n2 c2 =>
   cases c2 with
   | some _=>exact h.elim
   | none =>
    obtain ⟨m2,hK,hh⟩:=xK h
    refine ⟨m2,hK,fun x=>⟨(hh none (fun _ _ _=>True)).1,fun w g lim hm=>?_⟩⟩
    obtain ⟨g2,q1,q2,q3,q4⟩:=(hh none (fun _ _ _=>True)).2 w g lim hm
    by_cases hx : ∃ ad,x = .slice ad 0 0
    ·obtain ⟨ad,rfl⟩:=hx
     exact (hh ad (fun w g lim=>Rep w g lim (.emp t) (.slice ad 0 0))).2 w g lim hm
    ·exact ⟨g2,q1,q2,fun hr=>by cases hr with|emp _ ad=>exact absurd ⟨ad,rfl⟩ hx,q4⟩
 | .lit x0,oth,e,m,K,h=>by
  cases e<;>simp only [fE] at h<;>try exact h.elim
  case top=>exact ⟨m,h,fun x=>aW.same fun _ _ _ _=>.top x⟩
  case lit y =>
   obtain ⟨rfl,h⟩:=h
   exact ⟨m,h,fun x=>aW.repv (Le.refl _) x⟩
  case tt =>
   obtain ⟨rfl,h⟩:=h
   exact ⟨m,h,fun x=>aW.repv (fun _ _ _ _ hr=>by cases hr;exact .tt) x⟩
  case ff =>
   obtain ⟨rfl,h⟩:=h
   exact ⟨m,h,fun x=>aW.repv (fun _ _ _ _ hr=>by cases hr;exact .ff) x⟩
  case bl p q =>
   split at h
   ·obtain ⟨⟨h1,h2⟩,h⟩:=h
    exact ⟨m,h,fun x=>aW.repv (fun _ _ _ _ hr=>by cases hr;exact .bl _ _ _ h1 h2) x⟩
   ·exact h.elim
  case emp t2 =>
   split at h
   ·exact ⟨m,h,fun x=>aW.repv (fun _ _ _ _ hr=>by cases hr;exact .emp _ _) x⟩
   ·exact h.elim
  case vec t2 l2 =>
   split at h
   ·obtain ⟨rfl,h⟩:=h
    exact ⟨m,h,fun x=>aW.repv (fun _ _ _ _ hr=>by cases hr;exact .vecE _ _ _) x⟩
   ·exact h.elim
  case own t2 j o2 n2 c2 =>
   split at h
   ·cases c2 with
    | some _=>exact h.elim
    | none =>
     obtain ⟨m2,hK,hh⟩:=xK h
     refine ⟨m2,hK,fun x=>⟨(hh none (fun _ _ _=>True)).1,fun w g lim hm=>?_⟩⟩
     obtain ⟨g2,q1,q2,q3,q4⟩:=(hh none (fun w g lim=>Rep w g lim (.lit (.slice none 0 0)) x)).2 w g lim hm
     exact ⟨g2,q1,q2,fun hr=>by have:=q3 hr;cases hr;exact this,q4⟩
   ·exact h.elim
 | .vec t l,oth,e,m,K,h=>by
  cases e<;>simp only [fE] at h<;>try exact h.elim
  case top=>exact ⟨m,h,fun x=>aW.same fun _ _ _ _=>.top x⟩
  case vec t2 l2 =>
   obtain ⟨e1,hl,hK⟩:=dK h
   clear h
   subst e1
   have hl' : l = l2:=hl
   subst hl'
   exact ⟨m,hK,fun x=>aW.repv (Le.refl _) x⟩
 | .tt,oth,e,m,K,h=>by
  cases e<;>simp only [fE] at h<;>try exact h.elim
  case top=>exact ⟨m,h,fun x=>aW.same fun _ _ _ _=>.top x⟩
  case tt=>exact ⟨m,h,fun x=>aW.repv (Le.refl _) x⟩
  case lit y =>
   obtain ⟨rfl,h⟩:=h
   exact ⟨m,h,fun x=>aW.repv (fun _ _ _ _ hr=>by cases hr;exact .lit _) x⟩
  case bl p q =>
   exact ⟨m,h.2,fun x=>aW.repv (fun _ _ _ _ hr=>by cases hr;exact .bl _ _ _ (fun _=>h.1) (fun h=>by cases h)) x⟩
 | .ff,oth,e,m,K,h=>by
  cases e<;>simp only [fE] at h<;>try exact h.elim
  case top=>exact ⟨m,h,fun x=>aW.same fun _ _ _ _=>.top x⟩
  case ff=>exact ⟨m,h,fun x=>aW.repv (Le.refl _) x⟩
  case lit y =>
   obtain ⟨rfl,h⟩:=h
   exact ⟨m,h,fun x=>aW.repv (fun _ _ _ _ hr=>by cases hr;exact .lit _) x⟩
  case bl p q =>
   exact ⟨m,h.2,fun x=>aW.repv (fun _ _ _ _ hr=>by cases hr;exact .bl _ _ _ (fun h=>by cases h) (fun _=>h.1)) x⟩
 | .bl p q,oth,e,m,K,h=>by
  cases e<;>simp only [fE] at h<;>try exact h.elim
  case top=>exact ⟨m,h,fun x=>aW.same fun _ _ _ _=>.top x⟩
  case lit y =>
   split at h
   ·rename_i b
    obtain ⟨⟨h1,h2⟩,h⟩:=h
    refine ⟨m,h,fun x=>aW.repv (fun _ _ _ _ hr=>?_) x⟩
    cases hr with
    | bl _ _ b2 hp hq =>
     cases b2 with
     | true=>rw [h1 (hp rfl)];exact .lit _
     | false=>rw [h2 (hq rfl)];exact .lit _
   ·exact h.elim
  case bl p' q' =>
   obtain ⟨⟨h1,h2⟩,h⟩:=h
   exact ⟨m,h,fun x=>aW.repv (fun _ _ _ _ hr=>by cases hr with|bl _ _ b2 hp hq=>exact .bl _ _ _ (fun e=>h1 (hp e)) (fun e=>h2 (hq e))) x⟩
 | .ptr k o,oth,e,m,K,h=>by
  cases e<;>simp only [fE] at h<;>try exact h.elim
  case top=>exact ⟨m,h,fun x=>aW.same fun _ _ _ _=>.top x⟩
  case ptr k2 o2 =>
   cases h1 : Nat.beq k k2 with
   | false=>rw [h1] at h;exact h.elim
   | true =>
   rw [h1] at h
   simp only at h
   cases h2 : Nat.beq o o2 with
   | false=>rw [h2] at h;exact h.elim
   | true =>
   rw [h2] at h
   have e1:=nbt.1 h1;have e2:=nbt.1 h2
   subst e1;subst e2
   exact ⟨m,h,fun x=>aW.repv (Le.refl _) x⟩
 | .agg cs,oth,e,m,K,h=>by
  cases e<;>simp only [fE] at h<;>try exact h.elim
  case top=>exact ⟨m,h,fun x=>aW.same fun _ _ _ _=>.top x⟩
  case agg es =>
   obtain ⟨m2,hK,hh⟩:=l9 cs h
   refine ⟨m2,hK,fun x=>⟨(hh #[]).1,fun w g lim hm=>?_⟩⟩
   by_cases hx : ∃ xs,x = .agg xs
   ·obtain ⟨xs,rfl⟩:=hx
    obtain ⟨g2,q1,q2,q3,q4⟩:=(hh xs).2 w g lim hm
    exact ⟨g2,q1,q2,fun hr=>by cases hr with|agg _ _ hl hx=>have:=q3 ⟨hl,hx⟩;exact .agg _ _ this.1 this.2,q4⟩
   ·obtain ⟨g2,q1,q2,q3,q4⟩:=(hh #[]).2 w g lim hm
    exact ⟨g2,q1,q2,fun hr=>by cases hr with|agg _ xs hl hh=>exact absurd ⟨xs,rfl⟩ hx,q4⟩
 | .tup cs,oth,e,m,K,h=>by
  cases e<;>simp only [fE] at h<;>try exact h.elim
  case top=>exact ⟨m,h,fun x=>aW.same fun _ _ _ _=>.top x⟩
  case tup es =>
   obtain ⟨m2,hK,hh⟩:=l9 cs h
   refine ⟨m2,hK,fun x=>⟨(hh #[]).1,fun w g lim hm=>?_⟩⟩
   by_cases hx : ∃ xs,x = .tuple xs
   ·obtain ⟨xs,rfl⟩:=hx
    obtain ⟨g2,q1,q2,q3,q4⟩:=(hh xs).2 w g lim hm
    exact ⟨g2,q1,q2,fun hr=>by cases hr with|tup _ _ hl hx=>have:=q3 ⟨hl,hx⟩;exact .tup _ _ this.1 this.2,q4⟩
   ·obtain ⟨g2,q1,q2,q3,q4⟩:=(hh #[]).2 w g lim hm
    exact ⟨g2,q1,q2,fun hr=>by cases hr with|tup _ xs hl hh=>exact absurd ⟨xs,rfl⟩ hx,q4⟩
 | .top,oth,e,m,K,h=>by
  cases e<;>simp only [fE] at h<;>first|exact ⟨m,h,fun x=>aW.same fun _ _ _ _=>.top x⟩|(obtain ⟨e1,h⟩:=h;rw [← e1];exact ⟨m,h,fun x=>aW.repv (Le.refl _) x⟩)
 | .rptr _ _ _ _,oth,e,m,K,h=>by
  cases e<;>simp only [fE] at h<;>first|exact ⟨m,h,fun x=>aW.same fun _ _ _ _=>.top x⟩|(obtain ⟨e1,h⟩:=h;rw [← e1];exact ⟨m,h,fun x=>aW.repv (Le.refl _) x⟩)
 | .mp _,oth,e,m,K,h=>by
  cases e<;>simp only [fE] at h<;>first|exact ⟨m,h,fun x=>aW.same fun _ _ _ _=>.top x⟩|(obtain ⟨e1,h⟩:=h;rw [← e1];exact ⟨m,h,fun x=>aW.repv (Le.refl _) x⟩)
 | .vptr _ _ _ _,oth,e,m,K,h=>by
  cases e<;>simp only [fE] at h<;>first|exact ⟨m,h,fun x=>aW.same fun _ _ _ _=>.top x⟩|(obtain ⟨e1,h⟩:=h;rw [← e1];exact ⟨m,h,fun x=>aW.repv (Le.refl _) x⟩)
 | .clo _ _ _,oth,e,m,K,h=>by
  cases e<;>simp only [fE] at h<;>first|exact ⟨m,h,fun x=>aW.same fun _ _ _ _=>.top x⟩|(obtain ⟨e1,h⟩:=h;rw [← e1];exact ⟨m,h,fun x=>aW.repv (Le.refl _) x⟩)
theorem l9 {base : Nat} {tgt : Mem} : ∀ (cs : List AV) {oth es : List AV} {m : Mem} {K : Mem → Prop},lM base tgt oth cs es m K →
  ∃ m2,K m2 ∧ ∀ xs : Array Value,aW base oth m m2 (fun w g lim=>ax w g lim cs xs) (fun w g lim=>ax w g lim es xs)
 | [],oth,es,m,K,h=>by
  cases es with
  | nil=>exact ⟨m,by simpa [lM] using h,fun xs=>aW.same fun _ _ _ h=>h⟩
  | cons _ _=>simp [lM] at h
 | c :: r,oth,es,m,K,h=>by
  cases es with
  | nil=>simp [lM] at h
  | cons e es =>
   simp only [lM] at h
   obtain ⟨m1,ha,h1⟩:=ED c h
   obtain ⟨m2,hK,h2⟩:=l9 r ha
   refine ⟨m2,hK,fun xs=>⟨fun k cs hk=>by
    obtain ⟨cs',h3⟩:=(h1 undef).1 k cs hk
    exact (h2 #[]).1 k cs' h3,fun w g lim hm=>?_⟩⟩
   obtain ⟨x0,ys,hxs⟩ : ∃ x0 ys,xs = #[] ∨ xs = (x0 :: ys : List Value).toArray:=by
    cases hx : xs.toList with
    | nil=>exact ⟨undef,[],.inl (by rw [← Array.toArray_toList (xs:=xs),hx])⟩
    | cons x ys=>exact ⟨x,ys,.inr (by rw [← Array.toArray_toList (xs:=xs),hx])⟩
   obtain ⟨g1,p1,p2,p3,p4,p5⟩:=(h1 x0).2 w g lim hm
   obtain ⟨g2,q1,q2,q3,q4,q5⟩:=(h2 ys.toArray).2 w g1 lim p1
   refine ⟨g2,q1,p2.trans q2,fun hr=>?_,fun u y hu hr=>q4 u y (List.mem_cons_of_mem _ hu) (p4 u y (List.mem_append_right _ hu) hr),fun k cs hk=>by
    obtain ⟨cs',h3⟩:=(h1 undef).1 k cs hk
    obtain ⟨a1,a2⟩:=p5 k cs hk
    obtain ⟨b1,b2⟩:=q5 k cs' h3
    exact ⟨b1.trans a1,b2.trans a2⟩⟩
   rcases hxs with rfl|rfl
   ·have:=hr.1;simp at this
   ·have r0:=p3 (hr.2 0 c x0 (by simp) (by simp))
    have r1:=q4 e x0 (by simp) r0
    have rr : ax w g1 lim r ys.toArray:=⟨by have:=hr.1;simpa using this,fun i c2 x2 hc hx=>p4 c2 x2 (List.mem_append_left _ (List.mem_of_getElem? hc)) (hr.2 (i + 1) c2 x2 (by simpa using hc) (by simpa using hx))⟩
    exact ax.cons0 r1 (q3 rr)
end
def lN (base : Nat) (tgt : Mem) (oth : List AV) : Mem → Mem → (Mem → Prop) → Prop
 | [],m,K=>K m
 | (k,b) :: r,m,K=>match b with
  | .row t2 l2=>b_ m k fun b'=>match b' with
   | .row t l=>asK t t2 l fun l=>l = l2 ∧ lN base tgt oth r m K
   | .box _=>False
   | .mp _ _=>False
   | .pm _ _ _=>False
  | .box es=>b_ m k fun b'=>match b' with
   | .row _ _=>False
   | .mp _ _=>False
   | .pm _ _ _=>False
   | .box cs=>lM base tgt oth cs es m fun m=>b_ m k fun b2=>match b2 with
    | .row _ _=>False
    | .mp _ _=>False
    | .pm _ _ _=>False
    | .box _=>jb m k (.box es) fun m=>lN base tgt oth r m K
  | .mp ks es=>b_ m k fun b'=>match b' with
   | .row _ _=>False
   | .box _=>False
   | .mp ks' es'=>(ks' = ks ∧ es' = es) ∧ lN base tgt oth r m K
   | .pm _ _ _=>False
  | .pm ik F n=>b_ m k fun b'=>match b' with
   | .row _ _=>False
   | .box _=>False
   | .mp _ _=>False
   | .pm ik' F' n'=>(ik' = ik ∧ F' = F ∧ n' = n) ∧ lN base tgt oth r m K
def CM (m : Mem) : Mem → Prop
 | []=>True
 | (k,b) :: r=>(b_ m k fun b'=>b' = b) ∧ CM m r
theorem xL {m : Mem} : ∀ {m1 : Mem},CM m m1 → ∀ k b,ak m1 k = some b → ak m k = some b
 | [],_,k,b,hb=>by simp [ak] at hb
 | (i,c) :: r,h,k,b,hb=>by
  simp only [ak] at hb
  split at hb
  ·rename_i hi
   cases hb
   have:=nbt.1 hi
   subst this
   obtain ⟨b',h1,h2⟩:=bw h.1
   have h2' : b' = c:=h2
   rw [h1,h2']
  ·exact xL h.2 k b hb
theorem aW.trans {base : Nat} {oth : List AV} {m m1 m2 : Mem} {V V' V'' : World → G → Nat → Prop} (h : aW base oth m m1 V V') (h' : aW base oth m1 m2 V' V'') : aW base oth m m2 V V'':=by
 refine ⟨fun k cs hk=>by
  obtain ⟨cs',h3⟩:=h.1 k cs hk
  exact h'.1 k cs' h3,fun w g lim hm=>?_⟩
 obtain ⟨g1,p1,p2,p3,p4,p5⟩:=h.2 w g lim hm
 obtain ⟨g2,q1,q2,q3,q4,q5⟩:=h'.2 w g1 lim p1
 refine ⟨g2,q1,p2.trans q2,fun hv=>q3 (p3 hv),fun u y hu hr=>q4 u y hu (p4 u y hu hr),fun k cs hk=>?_⟩
 obtain ⟨cs',h3⟩:=h.1 k cs hk
 obtain ⟨a1,a2⟩:=p5 k cs hk
 obtain ⟨b1,b2⟩:=q5 k cs' h3
 exact ⟨b1.trans a1,b2.trans a2⟩
theorem EF {base : Nat} {oth : List AV} {m m1 : Mem} {k : Nat} {cs cs2 es : List AV} (hb : ak m k = some (.box cs)) (hb1 : ak m1 k = some (.box cs2))
  (hh : ∀ xs : Array Value,aW base oth m m1 (fun w g lim=>ax w g lim cs xs) (fun w g lim=>ax w g lim es xs)) : aW base oth m (nP m1 k (.box es)) (fun _ _ _=>True) (fun _ _ _=>True):=by
 refine ⟨fun i ds hi=>?_,fun w g lim hm=>?_⟩
 ·rw [sQ]
  by_cases h : k = i
  ·exact ⟨es,by simp [h]⟩
  ·rw [if_neg h];exact (hh #[]).1 i ds hi
 obtain ⟨h0,c,ty,b1,b2,b3,b4⟩:=hm.blk k _ hb
 obtain ⟨g1,p1,p2,p3,p4,p5⟩:=(hh c).2 w g lim hm
 have hr:=p3 ⟨by omega,b4⟩
 refine ⟨g1,?_,p2,fun _=>trivial,p4,p5⟩
 obtain ⟨e1,e2⟩:=p5 k cs hb
 have hal : g1.al k:=(p1.al k).2 (by simp [hb1])
 rw [ix]
 refine p1.write hal (by omega) (.box es) (Nat.le_refl _) (fun _ _ _=>rfl) ⟨by omega,c,ty,by rw [e1];exact b1,by omega,by have:=hr.1;omega,hr.2⟩
theorem l_ {base : Nat} {tgt : Mem} {oth : List AV} : ∀ (r : Mem) {m : Mem} {K : Mem → Prop},lN base tgt oth r m K →
  ∃ m2,K m2 ∧ aW base oth m m2 (fun _ _ _=>True) (fun _ _ _=>True)
 | [],m,K,h=>⟨m,h,aW.same fun _ _ _ h=>h⟩
 | (k,b) :: r,m,K,h=>by
  cases b with
  | row t2 l2 =>
   simp only [lN] at h
   obtain ⟨b',hb,ha⟩:=bw h
   clear h
   cases b' with
   | box _=>exact ha.elim
   | mp _ _=>exact ha.elim
   | pm _ _ _=>exact ha.elim
   | row t l =>
    simp only at ha
    obtain ⟨e,hc⟩:=dK ha
    exact l_ r hc.2
  | box es =>
   simp only [lN] at h
   obtain ⟨b',hb,ha⟩:=bw h
   clear h
   cases b' with
   | row _ _=>exact ha.elim
   | mp _ _=>exact ha.elim
   | pm _ _ _=>exact ha.elim
   | box cs =>
    simp only at ha
    obtain ⟨m1,hc,hh⟩:=l9 cs ha
    clear ha
    obtain ⟨b2,hb2,hd⟩:=bw hc
    clear hc
    cases b2 with
    | row _ _=>exact hd.elim
    | mp _ _=>exact hd.elim
    | pm _ _ _=>exact hd.elim
    | box cs2 =>
     simp only at hd
     rw [j8] at hd
     obtain ⟨m2,hK,h2⟩:=l_ r hd
     exact ⟨m2,hK,(EF hb hb2 hh).trans h2⟩
  | mp ks es =>
   simp only [lN] at h
   obtain ⟨b',hb,ha⟩:=bw h
   clear h
   cases b' with
   | row _ _=>exact ha.elim
   | box _=>exact ha.elim
   | mp ks' es'=>exact l_ r ha.2
   | pm _ _ _=>exact ha.elim
  | pm ik F n =>
   simp only [lN] at h
   obtain ⟨b',hb,ha⟩:=bw h
   clear h
   cases b' with
   | row _ _=>exact ha.elim
   | box _=>exact ha.elim
   | mp _ _=>exact ha.elim
   | pm ik' F' n'=>exact l_ r ha.2
theorem aM.only {w : World} {g : G} {lim : Nat} {m m1 : Mem} (h : aM w g lim (ak m)) (he : ∀ k b,ak m1 k = some b → ak m k = some b) :
  ∃ g',aM w g' lim (ak m1) ∧ (∀ base,LeG base g g') ∧ ∀ v x,Rep w g lim v x → Rep w g' lim v x:=by
 let g' : G:={ g with al:=fun k=>(ak m1 k).isSome }
 have hal : ∀ k,g'.al k → g.al k:=fun k hk=>by
  obtain ⟨b,hb⟩:=Option.isSome_iff_exists.1 hk
  exact (h.al k).2 (by simp [he k b hb])
 have hrep : ∀ v x,Rep w g lim v x → Rep w g' lim v x:=fun v x hv=>hv.mono ⟨fun _ h=>h,fun _ _=>rfl⟩ (Nat.le_refl _) fun k _ ha=>⟨hal k ha,rfl,rfl⟩
 refine ⟨g',⟨fun k=>Iff.rfl,fun k hk=>h.lt k (hal k hk),fun k hk=>h.nro k (hal k hk),fun i j hi hj=>h.inj i j (hal i hi) (hal j hj),fun k b hb=>?_,h.rolt,fun b hb=>⟨(h.nof b hb).1,(h.nof b hb).2.1,fun k hk=>(h.nof b hb).2.2 k (hal k hk)⟩⟩,fun base=>⟨fun _ h=>h,fun _ h=>h,fun k _ ha=>⟨hal k ha,rfl,rfl⟩⟩,hrep⟩
 exact (h.blk k b (he k b hb)).mono' ⟨fun _ h=>h,fun _ _=>rfl⟩ (Nat.le_refl _) (fun _=>rfl) fun i _ _ ha=>⟨hal i ha,rfl,rfl⟩
def nF (base : Nat) (cs : List AV) (m : Mem) (es : List AV) (m1 : Mem) : Prop:=
 lM base m1 [] cs es m fun m=>lN base m1 es m1 m fun m=>CM m m1
theorem rS {base : Nat} {cs es : List AV} {m m1 : Mem} (h : nF base cs m es m1) {w : World} {g : G} {lim : Nat} (hm : aM w g lim (ak m)) (xs : Array Value) (hr : ax w g lim cs xs) :
  ∃ g',aM w g' lim (ak m1) ∧ LeG base g g' ∧ ax w g' lim es xs:=by
 obtain ⟨m2,h2,q2⟩:=l9 cs h
 obtain ⟨m3,h3,q3⟩:=l_ m1 h2
 obtain ⟨g2,a1,a2,a3,a4⟩:=(q2 xs).2 w g lim hm
 obtain ⟨g3,b1,b2,b3,b4,_⟩:=q3.2 w g2 lim a1
 obtain ⟨g4,c1,c2,c3⟩:=b1.only (xL h3)
 have hr2:=a3 hr
 exact ⟨g4,c1,(a2.trans b2).trans (c2 base),⟨hr2.1,fun i c x hc hx=>c3 _ _ (b4 c x (List.mem_of_getElem? hc) (hr2.2 i c x hc hx))⟩⟩
def uC (P : Program) (lim : Nat) (rs : List ResultVar) (v : AV) (m1 : Mem) : fy:=fun e f m=>match e with
 | .normal=>mH P f m rs fun v'=>nF lim [v'] m [v] m1
 | .ret=>mH P f m rs fun v'=>nF lim [v'] m [v] m1
 | .exit _=>False
theorem xM {P : Program} {lim L' : Nat} {fn : Func} {f : List AV} {m : Mem} {v : AV} {m1 : Mem} (hv : scA lim v = true) (hm1 : scM lim m1 = true) (h : mH P f m fn.results.toList fun v'=>nF lim [v'] m [v] m1) {w : World} {g : G} {a : Act} (hs : Sim w g L' f (ak m) a) :
  ∃ x g',(results fn a.tmps).run P w = .ok x w ∧ Rep w g' lim v x ∧ aM w g' lim (ak m1) ∧ LeG lim g g':=by
 obtain ⟨v',x,h,e1,e2⟩:=sa h hs
 obtain ⟨g',h1,h2,h3⟩:=rS h hs.me #[x] ⟨rfl,fun i c y hc hy=>by
  cases i with
  | zero=>simp at hc hy;subst hc;subst hy;exact e2
  | succ i=>simp at hc⟩
 exact ⟨x,g',e1,(h3.2 0 v x (by simp) (by simp)).lower hv,h1.lower hm1,h2⟩
theorem nG {P : Program} {C : cG} (hC : cD P C) {fid : FuncId} {fn : Func} {c : Code} (hf : P.funcs[fid]? = some fn) (hb : fn.body = some c) {base nt : Nat} {args : List AV} {m m1 : Mem} {v : AV}
  (hn : fn.ntmps - args.length = nt) (hv : scA base v = true) (hm1 : scM base m1 = true)
  (h : ev P C base c (uC P base fn.results.toList v m1) (args ++ dj nt) m) {w : World} {g : G} {vs : Array Value} (hm : aM w g base (ak m)) (ha : ax w g base args vs) :
  Calls P fid vs w fun e w'=>∃ x g',e = .returned x ∧ Rep w' g' base v x ∧ aM w' g' base (ak m1) ∧ Tr g w w' ∧ LeG base g g':=by
 refine calls_of_wp hf hb ?_
 have hsz : args.length = vs.size:=ha.1
 have hs : Sim w g (base + L) (args ++ dj nt) (ak m) { tmps:=vs ++ Array.replicate (fn.ntmps - vs.size) undef,defers:=[] }:=by
  refine ⟨⟨by rw [g_];simp [hsz,← hn],fun i c x hc hx=>?_⟩,rfl,hm.raise (Nat.le_add_right _ _)⟩
  by_cases hi : i < args.length
  ·rw [List.getElem?_append_left hi] at hc
   rw [Array.getElem?_append_left (by omega)] at hx
   exact (ha.2 i c x hc hx).mono ⟨fun _ h=>h,fun _ _=>rfl⟩ (Nat.le_add_right _ _) fun _ _ h=>⟨h,rfl,rfl⟩
  ·rw [List.getElem?_append_right (by omega),g_,List.getElem?_replicate] at hc
   rw [Array.getElem?_append_right (by omega),Array.getElem?_replicate] at hx
   split at hc
   ·split at hx
    ·simp at hc hx;subst hc;subst hx;exact .lit _
    ·cases hx
   ·cases hc
 refine Code.wp_mono (fun e a' w' hh=>?_) ((qE hC c h).go w g _ hs)
 obtain ⟨ae,f',m',g',rfl,hq,hs',ht,hl⟩:=hh
 cases ae with
 | normal =>
  obtain ⟨x,g2,e1,e2,e3,e4⟩:=xM hv hm1 hq hs'
  exact ⟨hs'.df,x,e1,x,g2,rfl,e2,e3,ht,hl.trans e4⟩
 | ret =>
  obtain ⟨x,g2,e1,e2,e3,e4⟩:=xM hv hm1 hq hs'
  exact ⟨hs'.df,x,e1,x,g2,rfl,e2,e3,ht,hl.trans e4⟩
 | exit i=>exact hq.elim
theorem Api.of_fin {P : Program} {C : cG} (hC : cD P C) {fid : FuncId} {fn : Func} {c : Code} (hf : P.funcs[fid]? = some fn) (hb : fn.body = some c) {nt : Nat} {args : List AV} {v : AV}
  (hn : fn.ntmps - args.length = nt) (hv : scA 0 v = true) (h : ev P C 0 c (uC P 0 fn.results.toList v []) (args ++ dj nt) []) : Api P fid args v:=
 fun _ _ _ hm ha=>nG hC hf hb hn hv rfl h hm ha
theorem Ev1.of_fin {P : Program} {C : cG} (hC : cD P C) {fid : FuncId} {fn : Func} {c : Code} (hf : P.funcs[fid]? = some fn) (hb : fn.body = some c) {nt : Nat} {args : List AV} {m0 m1 : Mem} {v : AV}
  (hn : fn.ntmps - args.length = nt) (hv : scA L v = true) (hm1 : scM L m1 = true) (h : ev P C L c (uC P L fn.results.toList v m1) (args ++ dj nt) m0) : Ev1 P fid args m0 v m1:=
 fun _ _ _ hm ha=>nG hC hf hb hn hv hm1 h hm ha
def qu : List AV → (List AV → Prop) → Prop
 | [],K=>K []
 | _ :: r,K=>qu r fun r=>K (.top :: r)
def oL : List AV → List Nat → List AV → (List AV → Prop) → Prop
 | f,[],_,K=>K f
 | f,i :: is,es,K=>match es with
  | e :: es=>jZ f i e fun f=>oL f is es K
  | []=>K f
def t8 : List AV → List Nat → (List AV → Prop) → Prop
 | _,[],K=>K []
 | f,i :: is,K=>lU f i fun v=>t8 f is fun vs=>K (v :: vs)
def oM : List AV → List AV → Bool
 | [],[]=>true
 | _ :: a,_ :: b=>oM a b
 | _,_=>false
theorem uD : ∀ {a b : List AV},oM a b = true → a.length = b.length
 | [],[],_=>rfl
 | _ :: a,_ :: b,h=>by simp [uD (a:=a) (b:=b) h]
 | [],_ :: _,h=>by cases h
 | _ :: _,[],h=>by cases h
def iu : List AV → List AV
 | []=>[]
 | _ :: r=>.top :: iu r
def sets : List AV → List Nat → List AV → List AV
 | f,[],_=>f
 | f,i :: is,es=>match es with
  | e :: es=>sets (f.set i e) is es
  | []=>f
theorem uE (f : List AV) (K : List AV → Prop) : qu f K = K (iu f):=by
 induction f generalizing K with
 | nil=>rfl
 | cons a r ih=>simp only [qu,iu];rw [ih]
theorem CN (is : List Nat) : ∀ (f es : List AV) (K : List AV → Prop),oL f is es K = K (sets f is es):=by
 induction is with
 | nil=>intro f es K;simp [oL,sets]
 | cons i is ih =>
  intro f es K
  cases es with
  | nil=>rfl
  | cons e es=>simp only [oL,sets];rw [gZ,ih]
theorem CO (f : List AV) (is : List Nat) : ∀ (K : List AV → Prop),t8 f is K = K (is.map fun i=>(f[i]?).getD und):=by
 induction is with
 | nil=>intro K;rfl
 | cons i is ih=>intro K;simp only [t8,List.map_cons];rw [jR,ih]
theorem pg (f : List AV) : (iu f).length = f.length:=by induction f with|nil=>rfl|cons a r ih=>simp [iu,ih]
theorem uF : ∀ {f : List AV} {i : Nat} {c : AV},(iu f)[i]? = some c → c = .top
 | [],i,c,h=>by simp [iu] at h
 | a :: r,0,c,h=>by simp [iu] at h;exact h.symm
 | a :: r,i + 1,c,h=>uF (f:=r) (by simpa [iu] using h)
theorem ax.sets {w : World} {g : G} {lim : Nat} : ∀ (is : List Nat) {f es : List AV} {xs ys : Array Value},ax w g lim f xs → ax w g lim es ys → (∀ (k i : Nat),is[k]? = some i → i < xs.size → ys[k]? = xs[i]?) → ax w g lim (sets f is es) xs
 | [],f,es,xs,ys,hf,_,_=>by simpa [Eng.sets] using hf
 | i :: is,f,es,xs,ys,hf,he,hg=>by
  cases es with
  | nil=>exact hf
  | cons e es =>
   simp only [Eng.sets]
   obtain ⟨y,ys',hy⟩ : ∃ y ys',ys = (y :: ys' : List Value).toArray:=by
    cases hy : ys.toList with
    | nil=>have:=he.1;rw [← Array.length_toList,hy] at this;simp at this
    | cons y ys'=>exact ⟨y,ys',by rw [← Array.toArray_toList (xs:=ys),hy]⟩
   subst hy
   refine ax.sets is (ys:=ys'.toArray) ⟨by rw [List.length_set];exact hf.1,fun j c x hc hx=>?_⟩ ⟨by have:=he.1;simpa using this,fun k c x hc hx=>he.2 (k + 1) c x (by simpa using hc) (by simpa using hx)⟩ (fun k j hk hj=>by simpa using hg (k + 1) j (by simpa using hk) hj)
   by_cases hij : i = j
   ·subst hij
    rw [List.getElem?_set] at hc
    have hlt : i < xs.size:=(Array.getElem?_eq_some_iff.1 hx).1
    have:=hg 0 i (by simp) hlt
    simp at this
    simp at hc
    obtain ⟨_,rfl⟩:=hc
    rw [hx] at this
    exact he.2 0 e x (by simp) (by simpa using this)
   ·rw [List.getElem?_set_ne hij] at hc
    exact hf.2 j c x hc hx
def atK (base : Nat) (is : List Nat) (f : List AV) (m : Mem) (es : List AV) (m1 : Mem) : Prop:=t8 f is fun cs=>nF base cs m es m1
theorem AK {base : Nat} {is : List Nat} {f f0 : List AV} {m : Mem} {es : List AV} {m1 : Mem} (h : atK base is f m es m1) (hl : f.length = f0.length) {w : World} {g : G} {lim : Nat} {a : Act} (hs : Sim w g lim f (ak m) a) :
  ∃ g',Sim w g' lim (sets (iu f0) is es) (ak m1) a ∧ LeG base g g':=by
 unfold atK at h
 rw [CO] at h
 obtain ⟨g',h1,h2,h3⟩:=rS h hs.me (is.map fun i=>(a.tmps[i]?).getD undef).toArray ⟨by simp,fun k c x hc hx=>by
  simp only [List.getElem?_map,Option.map_eq_some_iff] at hc
  obtain ⟨i,hi,rfl⟩:=hc
  simp [hi] at hx
  subst hx
  have hll:=hs.fr.1
  by_cases hlt : i < a.tmps.size
  ·rw [Array.getElem?_eq_getElem hlt,List.getElem?_eq_getElem (by omega)]
   exact hs.fr.2 i _ _ (List.getElem?_eq_getElem (by omega)) (Array.getElem?_eq_getElem hlt)
  ·rw [Array.getElem?_eq_none (by omega),List.getElem?_eq_none (by omega)]
   exact .lit _⟩
 refine ⟨g',⟨ax.sets is ⟨by rw [pg,← hl];exact hs.fr.1,fun i c x hc _=>by rw [uF hc];exact .top _⟩ h3 (fun k i hk hi=>by simp [hk,hi]),hs.df,h1⟩,h2⟩
inductive uG {σ : Type} (inv : σ → Prop) (lt : σ → Prop) (here : σ → Prop) : Prop where
 | to (s : σ) (h : inv s) (h' : lt s) (h'' : here s) : uG inv lt here
 | no (h : False) : uG inv lt here
theorem aw.loopS {P : Program} {C : cG} (hC : cD P C) {base : Nat} {c : Code} {Q : fy} {f : List AV} {m : Mem} {σ : Type} (is : List Nat) (S : σ → List AV) (M : σ → Mem) (inv : σ → Prop) (rank : σ → Nat) (s0 : σ)
  (hi : inv s0) (h0 : atK base is f m (S s0) (M s0))
  (round : ∀ s,inv s → qu f fun f0=>oL f0 is (S s) fun f1=>ev P C base c (fun e f' m'=>match e with
   | .normal=>match oM f' f0 with
    | true=>uG inv (fun s'=>rank s' < rank s) (fun s'=>atK base is f' m' (S s') (M s'))
    | false=>False
   | e=>Q e f' m') f1 (M s)) : aw P base (.loop c) Q f m:=by
 refine ⟨fun w g a hs=>?_⟩
 obtain ⟨g0,hs0,hl0⟩:=AK (f0:=f) h0 rfl hs
 refine sN (fun n a' w'=>∃ s g',inv s ∧ rank s = n ∧ Sim w' g' (base + L) (sets (iu f) is (S s)) (ak (M s)) a' ∧ Tr g w w' ∧ LeG base g g') (rank s0) ⟨s0,g0,hi,rfl,hs0,Tr.refl g w,hl0⟩ ?_
 intro n1 a1 w1 hh
 obtain ⟨s,g1,hI1,rfl,hs1,ht1,hl1⟩:=hh
 have hr:=round s hI1
 rw [uE,CN] at hr
 refine Code.wp_mono (fun e a2 w2 hh=>?_) ((qE hC c hr).go w1 g1 a1 hs1)
 obtain ⟨ae,f2,m2,g2,rfl,hq,hs2,ht2,hl2⟩:=hh
 cases ae with
 | normal =>
  simp only at hq
  cases hsl : oM f2 (iu f) with
  | false=>rw [hsl] at hq;exact hq.elim
  | true =>
   rw [hsl] at hq
   rcases hq with ⟨s',hi',hlt,hat⟩|hq
   case no=>exact hq.elim
   obtain ⟨g3,hs3,hl3⟩:=AK (f0:=f) hat (by rw [uD hsl,pg]) hs2
   exact ⟨rank s',hlt,s',g3,hi',rfl,hs3,ht1.trans hl1 ht2,(hl1.trans hl2).trans hl3⟩
 | exit i=>exact ⟨.exit i,f2,m2,g2,rfl,hq,hs2,ht1.trans hl1 ht2,hl1.trans hl2⟩
 | ret=>exact ⟨.ret,f2,m2,g2,rfl,hq,hs2,ht1.trans hl1 ht2,hl1.trans hl2⟩
theorem isE {P : Program} {base : Nat} (fid : FuncId) {args : List AV} {f : List AV} {m : Mem} {d : Option Nat} {K : List AV → Mem → Prop} {J : Prop}
 (h : (∃ c : aD,(∀ p ∈ c.rd,ak m p.1 = some p.2) ∧ fI P base fid args c ∧ dV c f m d K) ∨ J) :
 (∃ c : aD,(∀ p ∈ c.rd,ak m p.1 = some p.2) ∧ fI P base fid args c ∧ dV c f m d K) ∨ J:=h
theorem isD {P : Program} {base : Nat} (fid : FuncId) {args : List AV} {m : Mem} {K : aD → Prop}
 (h : ∃ c : aD,(∀ p ∈ c.rd,ak m p.1 = some p.2) ∧ fI P base fid args c ∧ K c) :
 ∃ c : aD,(∀ p ∈ c.rd,ak m p.1 = some p.2) ∧ fI P base fid args c ∧ K c:=h
theorem uH {α : Type} : (∀ (a : α) (l : List α),(a :: l).length = l.length + 1) ∧ ([] : List α).length = 0 ∧ (∀ a b : List α,(a ++ b).length = a.length + b.length) ∧ (∀ (n : Nat) (l : List α),(l.take n).length = min n l.length) ∧ (∀ (n : Nat) (l : List α),(l.drop n).length = l.length - n) ∧ (∀ (n : Nat) (a : α),(List.replicate n a).length = n) ∧ (∀ (l : List α) (n : Nat) (a : α),(l.set n a).length = l.length):=
 ⟨fun _ _=>rfl,rfl,fun _ _=>List.length_append,fun _ _=>List.length_take,fun _ _=>List.length_drop,fun _ _=>List.length_replicate,fun _ _ _=>List.length_set⟩
theorem Gv {r : Int} (h : 0 ≤ r) (h' : r ≤ 255) : inR .u8 r:=by unfold inR;exact IntWalk.u8_in r ⟨h,h'⟩
theorem qv {r : Int} (h : 0 ≤ r) (h' : r ≤ 18446744073709551615) : inR .u64 r:=by unfold inR;exact IntWalk.u64_in r ⟨h,h'⟩
theorem nrm : (∀ {p : Prop} [Decidable p],(decide p = true) = p) ∧ (∀ {p : Prop} [Decidable p],decide p = false ↔ ¬p) ∧ (∀ {a b : Int},¬a < b ↔ b ≤ a) ∧ (∀ {a b : Int},¬a ≤ b ↔ b < a) ∧
  (∀ {α : Type} [BEq α] [LawfulBEq α] {a b : α},(a == b) = true ↔ a = b) ∧ (∀ {α : Type} [BEq α] [LawfulBEq α] {a b : α},(a == b) = false ↔ a ≠ b) ∧
  (∀ {α : Type} [BEq α] [LawfulBEq α] {a b : α},(a != b) = true ↔ a ≠ b) ∧ (∀ {α : Type} [BEq α] [LawfulBEq α] {a b : α},(a != b) = false ↔ a = b) ∧
  (∀ {α : Type} (a b : α),(a ≠ b) = ¬a = b) ∧ (∀ {p : Prop} [Decidable p],¬¬p ↔ p) ∧ (∀ {b : Bool},(!b) = true ↔ b = false) ∧ (∀ {b : Bool},(!b) = false ↔ b = true) ∧
  (∀ {b : Bool},(¬b = true) = (b = false)) ∧ (∀ {b : Bool},(¬b = false) = (b = true)) ∧ (∀ (n : Nat),(n : Int).toNat = n) ∧ (∀ (a b : Bool),((a && b) = true) = (a = true ∧ b = true)) ∧
  (∀ (a b : Bool),((a || b) = true) = (a = true ∨ b = true)) ∧ (∀ {a b : Bool},(a && b) = false ↔ a = false ∨ b = false) ∧ (∀ {a b : Bool},(a || b) = false ↔ a = false ∧ b = false) ∧
  (∀ {α : Type},([] : List α).length = 0) ∧ (∀ {α : Type} {a : α} {l : List α},(a :: l).length = l.length + 1):=
 ⟨decide_eq_true_eq,decide_eq_false_iff_not,Int.not_lt,Int.not_le,beq_iff_eq,beq_eq_false_iff_ne,bne_iff_ne,bne_eq_false_iff_eq,ne_eq,Decidable.not_not,by simp,by simp,by simp,by simp,Int.toNat_natCast,by simp,by simp,by simp,by simp,List.length_nil,List.length_cons⟩
theorem bd2 {a b c d : Prop} (k : c) (h1 : a:=by omega) (h2 : b:=by omega) : (a ∧ b ∧ c) ∨ d:=.inl ⟨h1,h2,k⟩
theorem bdR {a b c d : Prop} (k : c) (h1 : a:=by first|omega|(simp only [uH,Int.toNat_natCast,bsz,Nat.zero_mul,Nat.zero_add];omega)) (h2 : b:=by first|omega|(simp only [uH,Int.toNat_natCast,bsz,Nat.zero_mul,Nat.zero_add];omega)) : d ∨ ((a ∧ b) ∧ c):=.inr ⟨⟨h1,h2⟩,k⟩
theorem bdL {a b c d : Prop} (k : c) (h1 : a:=by first|omega|(simp only [uH,Int.toNat_natCast,bsz,Nat.zero_mul,Nat.zero_add];omega)) (h2 : b:=by first|omega|(simp only [uH,Int.toNat_natCast,bsz,Nat.zero_mul,Nat.zero_add];omega)) : ((a ∧ b) ∧ c) ∨ d:=.inl ⟨⟨h1,h2⟩,k⟩
theorem kA {P : Program} {base : Nat} {fid : FuncId} {args : List AV} {v : AV} (h : Api P fid args v) {f : List AV} {m : Mem} {d : Option Nat} {K : List AV → Mem → Prop} {J : Prop}
 (hK : dV (vA v) f m d K) (ha : d8 args = true:=by exact rfl) (hv : eG v = true:=by exact rfl) : (∃ c : aD,(∀ p ∈ c.rd,ak m p.1 = some p.2) ∧ fI P base fid args c ∧ dV c f m d K) ∨ J:=mi h ha hv hK
theorem kD {P : Program} {base : Nat} {fid : FuncId} {args : List AV} {v : AV} (h : Api P fid args v) {m : Mem} {K : aD → Prop} (hK : K (vA v)) (ha : d8 args = true:=by exact rfl) (hv : eG v = true:=by exact rfl) :
 ∃ c : aD,(∀ p ∈ c.rd,ak m p.1 = some p.2) ∧ fI P base fid args c ∧ K c:=CK h ha hv hK
theorem kE {P : Program} {base : Nat} {fid : FuncId} {args args' : List AV} {m0 m1 : Mem} {v : AV} (h : Ev1 P fid args m0 v m1) (l : List (Nat × Nat)) {f : List AV} {m : Mem} {d : Option Nat} {K : List AV → Mem → Prop} {J : Prop}
 (hargs : dc (asc l) args = args') (hK : l8 l m0 v m1 fun c=>dV c f m d K) (hrd : rdK (asc l) m m0:=by (repeat' (first|exact trivial|(refine ⟨rfl,?_⟩)))) (hok : oJ base l args m0 v m1 = true:=by kernel_rfl) :
 (∃ c : aD,(∀ p ∈ c.rd,ak m p.1 = some p.2) ∧ fI P base fid args' c ∧ dV c f m d K) ∨ J:=FA h l hargs hrd hok hK
theorem kF {P : Program} {base : Nat} {fid : FuncId} {args args' : List AV} {m0 m1 : Mem} {v : AV} (h : Ev1 P fid args m0 v m1) (l : List (Nat × Nat)) {m : Mem} {K : aD → Prop}
 (hargs : dc (asc l) args = args') (hK : l8 l m0 v m1 K) (hrd : rdK (asc l) m m0:=by (repeat' (first|exact trivial|(refine ⟨rfl,?_⟩)))) (hok : oJ base l args m0 v m1 = true:=by kernel_rfl) :
 ∃ c : aD,(∀ p ∈ c.rd,ak m p.1 = some p.2) ∧ fI P base fid args' c ∧ K c:=EA h l hargs hrd hok hK
theorem kW {P : Program} {C : cG} (hC : cD P C) {base : Nat} {ops : Array Oper} {f : List AV} {m : Mem} {K : List AV → Mem → Prop} (h : mz P C base ops.toList ops.toList f m fun rs fr m'=>tZ .any ops.toList rs f m = true ∧ K fr m')
 (hB : Region.lexB .any ops = true:=by kernel_rfl) : oS P base ops f m K:=oS.of hC hB h
theorem kC {md : Region.Mode} {ops : List Oper} {rs : List Res} {f : List AV} {m : Mem} {q : Prop} (k : q) (h : tZ md ops rs f m = true:=by kernel_rfl) : tZ md ops rs f m = true ∧ q:=⟨h,k⟩
theorem bdA {p q : Prop} (k : q) (h : p:=by first|omega|exact rfl|exact congrArg (Value.int _) (by omega)|(simp only [uH,Int.toNat_natCast,bsz,Nat.zero_mul,Nat.zero_add];omega)) : p ∧ q:=⟨h,k⟩
theorem kL {k : IntKind} {n : Int} {c d : Prop} (h : c) (h1 : inR k n:=by first|exact pV (by omega) (by omega)|exact qv (by omega) (by omega)|exact Gv (by omega) (by omega)) : (inR k n ∧ c) ∨ d:=.inl ⟨h1,h⟩
theorem kB {b c : Bool} {q : Prop} (h : b = c) (h2 : b = !c:=by assumption) : q:=by subst h;cases b<;>cases h2
open Go Go.RowKit
def fB (l : List (Nat × Nat)) : Mem → Mem
 | []=>[]
 | (k,b) :: r=>match bY l k with
  | true=>(k,b) :: fB l r
  | false=>fB l r
theorem kQ {l : List (Nat × Nat)} : ∀ {m : Mem} {k : Nat} {b : Blk},ak (fB l m) k = some b → ak m k = some b
 | [],k,b,h=>by simp [fB,ak] at h
 | (i,c) :: r,k,b,h=>by
  simp only [fB] at h
  simp only [ak]
  cases hd : bY l i with
  | true =>
   rw [hd] at h
   simp only [ak] at h
   cases hik : Nat.beq i k with
   | true=>rw [hik] at h;exact h
   | false=>rw [hik] at h;exact kQ h
  | false =>
   rw [hd] at h
   simp only at h
   cases hik : Nat.beq i k with
   | true =>
    have:=kQ h
    have hlk : ∀ {r : Mem},bY l k = false → ak (fB l r) k = none:=by
     intro r hf
     induction r with
     | nil=>rfl
     | cons p r ih =>
      obtain ⟨j,e⟩:=p
      simp only [fB]
      cases hj : bY l j with
      | false=>exact ih
      | true =>
       simp only [ak]
       cases hjk : Nat.beq j k with
       | false=>exact ih
       | true=>rw [nbt.1 hjk,hf] at hj;cases hj
    rw [nbt.1 hik] at hd
    rw [hlk hd] at h;cases h
   | false=>exact kQ h
def CP (n : Nat) : Bool:=Nat.beq (n % 2) 1
def uI (base : Nat) : List (Nat × Nat) → Bool
 | []=>true
 | (i,a) :: r=>match Nat.beq i a with
  | true=>match Nat.blt a base with
   | true=>uI base r
   | false=>false
  | false=>match Nat.ble base a with
   | true=>match CP a with
    | true=>uI base r
    | false=>false
   | false=>false
theorem rT {base : Nat} : ∀ {l : List (Nat × Nat)},uI base l = true → ∀ k,bY l k = true → (asc l k = k ∧ k < base) ∨ (base ≤ asc l k ∧ asc l k % 2 = 1)
 | [],_,k,hk=>by cases hk
 | (i,a) :: r,h,k,hk=>by
  simp only [uI] at h
  simp only [bY] at hk
  simp only [asc]
  cases hik : Nat.beq i k with
  | true =>
   have e:=nbt.1 hik
   subst e
   simp only
   cases hia : Nat.beq i a with
   | true =>
    rw [hia] at h
    simp only at h
    cases hb : Nat.blt a base with
    | true=>exact .inl ⟨(nbt.1 hia).symm,by rw [nbt.1 hia];exact Nat.le_of_ble_eq_true hb⟩
    | false=>rw [hb] at h;cases h
   | false =>
    rw [hia] at h
    simp only at h
    cases hb : Nat.ble base a with
    | false=>rw [hb] at h;cases h
    | true =>
     rw [hb] at h
     simp only at h
     cases ho : CP a with
     | false=>rw [ho] at h;cases h
     | true=>exact .inr ⟨Nat.le_of_ble_eq_true hb,nbt.1 ho⟩
  | false =>
   rw [hik] at hk
   simp only at hk ⊢
   refine rT (l:=r) ?_ k hk
   cases hia : Nat.beq i a with
   | true =>
    rw [hia] at h
    simp only at h
    cases hb : Nat.blt a base with
    | true=>rw [hb] at h;exact h
    | false=>rw [hb] at h;cases h
   | false =>
    rw [hia] at h
    simp only at h
    cases hb : Nat.ble base a with
    | false=>rw [hb] at h;cases h
    | true =>
     rw [hb] at h
     simp only at h
     cases ho : CP a with
     | false=>rw [ho] at h;cases h
     | true=>rw [ho] at h;exact h
def uJ (base : Nat) (l : List (Nat × Nat)) (m : Mem) (v : AV) : Bool:=
 match jW l with
 | false=>false
 | true=>match uI base l with
  | false=>false
  | true=>match jz (bY l) (bY l) m with
   | false=>false
   | true=>bT (bY l) v
theorem pP {l : List (Nat × Nat)} (hi : jW l = true) : ∀ {m : Mem},(∀ k,bo m k = true → bY l k = true) → ∀ {j : Nat} {b : Blk},ak (rdR (asc l) m) j = some b → ∃ k c,asb l j = some k ∧ ak m k = some c ∧ b = fw (asc l) c
 | [],_,j,b,h=>by simp [rdR,ak] at h
 | (k,c) :: r,hd,j,b,h=>by
  simp only [rdR,ak] at h
  have hk : bY l k = true:=hd k (by simp [bo,Nat.beq_refl])
  cases hkj : Nat.beq (asc l k) j with
  | true =>
   rw [hkj] at h
   cases h
   have e:=nbt.1 hkj
   exact ⟨k,c,by rw [← e];exact de hi hk,by simp [ak,Nat.beq_refl],rfl⟩
  | false =>
   rw [hkj] at h
   obtain ⟨k2,c2,h1,h2,h3⟩:=pP hi (m:=r) (fun i hh=>hd i (by simp only [bo];split<;>simp_all)) h
   refine ⟨k2,c2,h1,?_,h3⟩
   simp only [ak]
   cases hkk : Nat.beq k k2 with
   | false=>exact h2
   | true =>
    have e:=nbt.1 hkk
    subst e
    have:=d0 hi h1
    rw [this.2,Nat.beq_refl] at hkj
    cases hkj
theorem sI {l : List (Nat × Nat)} (hi : jW l = true) : ∀ {m : Mem},(∀ k,bo m k = true → bY l k = true) → ∀ {k : Nat} {c : Blk},ak m k = some c → ak (rdR (asc l) m) (asc l k) = some (fw (asc l) c)
 | [],_,k,c,h=>by simp [ak] at h
 | (i,e) :: r,hd,k,c,h=>by
  simp only [rdR,ak] at h ⊢
  have hki : bY l i = true:=hd i (by simp [bo,Nat.beq_refl])
  cases hik : Nat.beq i k with
  | true =>
   rw [hik] at h
   cases h
   rw [nbt.1 hik,Nat.beq_refl]
  | false =>
   rw [hik] at h
   simp only at h
   have hd2 : ∀ k,bo r k = true → bY l k = true:=fun i hh=>hd i (by simp only [bo];split<;>simp_all)
   have hk : bY l k = true:=hd2 k (by rw [bI,h];rfl)
   have hne : Nat.beq (asc l i) (asc l k) = false:=nbf.2 fun e=>by
    have h1:=de hi hki
    rw [e,de hi hk] at h1
    cases h1
    rw [Nat.beq_refl] at hik;cases hik
   rw [hne]
   exact sI hi hd2 h
theorem EG {base lim : Nat} {l : List (Nat × Nat)} {m : Mem} {v : AV} (hok : uJ base l m v = true) {w : World} {g : G} {x : Value} (hm : aM w g lim (ak m)) (hr : Rep w g lim v x) (hlim : base ≤ lim) :
  ∃ g',aM w g' base (ak (rdR (asc l) m)) ∧ LeG base g g' ∧ Rep w g' base (bK (asc l) v) x:=by
 unfold uJ at hok
 split at hok
 ·cases hok
 rename_i hinj
 split at hok
 ·cases hok
 rename_i hfit
 split at hok
 ·cases hok
 rename_i hmem
 have hd : ∀ k,bo m k = true → bY l k = true:=fun k hk=>by
  rw [bI] at hk
  obtain ⟨b,hb⟩:=Option.isSome_iff_exists.1 hk
  exact (cv hmem hb).1
 let σ : Nat → Nat:=fun j=>(asb l j).getD 0
 have hσ : ∀ k,bY l k = true → σ (asc l k) = k:=fun k hk=>by simp only [σ];rw [de hinj hk];rfl
 let g' : G:={ ro:=g.ro,no:=g.no,al:=fun j=>∃ k,asb l j = some k ∧ g.al k,be:=fun j=>g.be (σ j),sz:=fun j=>g.sz (σ j) }
 have hal : ∀ {j},g'.al j → g.al (σ j) ∧ asc l (σ j) = j ∧ bY l (σ j) = true:=fun {j} ⟨k,h1,h2⟩=>by
  obtain ⟨q1,q2⟩:=d0 hinj h1
  have e : σ j = k:=by simp only [σ,h1];rfl
  rw [e];exact ⟨h2,q2,q1⟩
 have hpk : ∀ k,bY l k = true → (asc l k < base ∨ asc l k % 2 = 1) ∧ (g'.al (asc l k) → g.al k ∧ g'.be (asc l k) = g.be k ∧ g'.sz (asc l k) = g.sz k):=fun k hk=>by
  refine ⟨?_,fun ha=>?_⟩
  ·rcases rT hfit k hk with ⟨h1,h2⟩|⟨_,h2⟩
   ·exact .inl (by rw [h1];exact h2)
   ·exact .inr h2
  ·have h3:=(hal ha).1
   rw [hσ k hk] at h3
   exact ⟨h3,by simp only [g'];rw [hσ k hk],by simp only [g'];rw [hσ k hk]⟩
 have hkw : dQ w w g g':=⟨fun _ h=>h,fun _ _=>rfl⟩
 refine ⟨g',⟨fun j=>⟨fun ha=>?_,fun hs=>?_⟩,fun j ha=>?_,fun j ha hz=>hm.nro _ (hal ha).1 hz,fun i j hi hj zi zj e=>?_,fun j b hb=>?_,hm.rolt,fun b hb=>⟨(hm.nof b hb).1,(hm.nof b hb).2.1,fun k ha hz=>(hm.nof b hb).2.2 _ (hal ha).1 hz⟩⟩,⟨fun _ h=>h,fun _ h=>h,fun k hk ha=>?_⟩,hr.ren hkw hpk hok⟩
 ·obtain ⟨h1,h2,h3⟩:=hal ha
  obtain ⟨c,hc⟩:=Option.isSome_iff_exists.1 ((hm.al _).1 h1)
  have:=sI hinj hd hc
  rw [h2] at this
  rw [this];rfl
 ·obtain ⟨b,hb⟩:=Option.isSome_iff_exists.1 hs
  obtain ⟨k,c,h1,h2,_⟩:=pP hinj hd hb
  exact ⟨k,h1,(hm.al k).2 (by rw [h2];rfl)⟩
 ·obtain ⟨h1,h2,h3⟩:=hal ha
  have:=(hpk _ h3).1
  rw [h2] at this;exact this
 ·have h1:=hal hi
  have h2:=hal hj
  have:=hm.inj _ _ h1.1 h2.1 zi zj e
  rw [← h1.2.1,← h2.2.1,this]
 ·obtain ⟨k,c,h1,h2,rfl⟩:=pP hinj hd hb
  have e : σ j = k:=by simp only [σ,h1];rfl
  have h3:=(hm.blk k c h2).ren hkw hpk (fun _=>rfl) (fun cs hcs=>(cv hmem h2).2.1 cs hcs) (fun ks cs hcs=>(cv hmem h2).2.2 ks cs hcs)
  simp only [g',e];exact h3
 ·obtain ⟨h1,h2,h3⟩:=hal ha
  rcases rT hfit _ h3 with ⟨h4,_⟩|⟨h4,_⟩
  ·rw [h2] at h4
   simp only [g']
   rw [← h4] at h1 ⊢
   exact ⟨h1,rfl,rfl⟩
  ·omega
def FB (P : Program) (lim : Nat) (l : List (Nat × Nat)) (rs : List ResultVar) (v : AV) (m1 : Mem) : fy:=fun e f m=>match e with
 | .normal=>mH P f m rs fun v'=>uJ lim l (fB l m) v' = true ∧ nF lim [bK (asc l) v'] (rdR (asc l) (fB l m)) [v] m1
 | .ret=>mH P f m rs fun v'=>uJ lim l (fB l m) v' = true ∧ nF lim [bK (asc l) v'] (rdR (asc l) (fB l m)) [v] m1
 | .exit _=>False
theorem xN {P : Program} {lim L' : Nat} {l : List (Nat × Nat)} {fn : Func} {f : List AV} {m : Mem} {v : AV} {m1 : Mem} (hL : lim ≤ L')
  (h : mH P f m fn.results.toList fun v'=>uJ lim l (fB l m) v' = true ∧ nF lim [bK (asc l) v'] (rdR (asc l) (fB l m)) [v] m1) {w : World} {g : G} {a : Act} (hs : Sim w g L' f (ak m) a) :
  ∃ x g',(results fn a.tmps).run P w = .ok x w ∧ Rep w g' lim v x ∧ aM w g' lim (ak m1) ∧ LeG lim g g':=by
 obtain ⟨v',x,⟨h0,h⟩,e1,e2⟩:=sa h hs
 obtain ⟨g1,a1,a2,a3⟩:=hs.me.only (m1:=fB l m) fun k b hb=>kQ hb
 obtain ⟨g2,b1,b2,b3⟩:=EG h0 a1 (a3 _ _ e2) hL
 obtain ⟨g',h1,h2,h3⟩:=rS h b1 #[x] ⟨rfl,fun i c y hc hy=>by
  cases i with
  | zero=>simp at hc hy;subst hc;subst hy;exact b3
  | succ i=>simp at hc⟩
 exact ⟨x,g',e1,h3.2 0 v x (by simp) (by simp),h1,((a2 lim).trans b2).trans h2⟩
theorem uK {P : Program} {C : cG} (hC : cD P C) {fid : FuncId} {fn : Func} {c : Code} (hf : P.funcs[fid]? = some fn) (hb : fn.body = some c) {base nt : Nat} {l : List (Nat × Nat)} {args : List AV} {m m1 : Mem} {v : AV}
  (hn : fn.ntmps - args.length = nt)
  (h : ev P C base c (FB P base l fn.results.toList v m1) (args ++ dj nt) m) {w : World} {g : G} {vs : Array Value} (hm : aM w g base (ak m)) (ha : ax w g base args vs) :
  Calls P fid vs w fun e w'=>∃ x g',e = .returned x ∧ Rep w' g' base v x ∧ aM w' g' base (ak m1) ∧ Tr g w w' ∧ LeG base g g':=by
 refine calls_of_wp hf hb ?_
 have hsz : args.length = vs.size:=ha.1
 have hs : Sim w g (base + L) (args ++ dj nt) (ak m) { tmps:=vs ++ Array.replicate (fn.ntmps - vs.size) undef,defers:=[] }:=by
  refine ⟨⟨by rw [g_];simp [hsz,← hn],fun i c x hc hx=>?_⟩,rfl,hm.raise (Nat.le_add_right _ _)⟩
  by_cases hi : i < args.length
  ·rw [List.getElem?_append_left hi] at hc
   rw [Array.getElem?_append_left (by omega)] at hx
   exact (ha.2 i c x hc hx).mono ⟨fun _ h=>h,fun _ _=>rfl⟩ (Nat.le_add_right _ _) fun _ _ h=>⟨h,rfl,rfl⟩
  ·rw [List.getElem?_append_right (by omega),g_,List.getElem?_replicate] at hc
   rw [Array.getElem?_append_right (by omega),Array.getElem?_replicate] at hx
   split at hc
   ·split at hx
    ·simp at hc hx;subst hc;subst hx;exact .lit _
    ·cases hx
   ·cases hc
 refine Code.wp_mono (fun e a' w' hh=>?_) ((qE hC c h).go w g _ hs)
 obtain ⟨ae,f',m',g',rfl,hq,hs',ht,hl⟩:=hh
 cases ae with
 | normal =>
  obtain ⟨x,g2,e1,e2,e3,e4⟩:=xN (Nat.le_add_right _ _) hq hs'
  exact ⟨hs'.df,x,e1,x,g2,rfl,e2,e3,ht,hl.trans e4⟩
 | ret =>
  obtain ⟨x,g2,e1,e2,e3,e4⟩:=xN (Nat.le_add_right _ _) hq hs'
  exact ⟨hs'.df,x,e1,x,g2,rfl,e2,e3,ht,hl.trans e4⟩
 | exit i=>exact hq.elim
theorem Ev1.of_finR {P : Program} {C : cG} (hC : cD P C) {fid : FuncId} {fn : Func} {c : Code} (hf : P.funcs[fid]? = some fn) (hb : fn.body = some c) (l : List (Nat × Nat)) {nt : Nat} {args : List AV} {m0 m1 : Mem} {v : AV}
  (hn : fn.ntmps - args.length = nt) (h : ev P C L c (FB P L l fn.results.toList v m1) (args ++ dj nt) m0) : Ev1 P fid args m0 v m1:=
 fun _ _ _ hm ha=>uK hC hf hb hn h hm ha
open Go Go.RowKit
theorem aw.loopQ {P : Program} {C : cG} (hC : cD P C) {base : Nat} {c : Code} {Q : fy} {f : List AV} {m : Mem} {σ : Type} (is : List Nat) (S : σ → List AV) (M : σ → Mem) (inv : σ → Prop) (rank : σ → Nat) (s0 : σ)
  (hi : inv s0) (h0 : atK base is f m (S s0) (M s0))
  (round : ∀ s,inv s → ∀ N : fy,(∀ f' m',(match oM f' (iu f) with
    | true=>uG inv (fun s'=>rank s' < rank s) (fun s'=>atK base is f' m' (S s') (M s'))
    | false=>False) → N .normal f' m') → (∀ i f' m',Q (.exit i) f' m' → N (.exit i) f' m') → (∀ f' m',Q .ret f' m' → N .ret f' m') →
   qu f fun f0=>oL f0 is (S s) fun f1=>ev P C base c N f1 (M s)) : aw P base (.loop c) Q f m:=by
 refine aw.loopS hC is S M inv rank s0 hi h0 fun s hs=>?_
 have h:=round s hs (fun e f' m'=>match e with
  | .normal=>match oM f' (iu f) with
   | true=>uG inv (fun s'=>rank s' < rank s) (fun s'=>atK base is f' m' (S s') (M s'))
   | false=>False
  | e=>Q e f' m') (fun f' m' h=>h) (fun i f' m' h=>h) (fun f' m' h=>h)
 rw [uE] at h ⊢
 exact h
theorem af {P : Program} {C : cG} {base : Nat} {x y : Code} {Q : fy} {f : List AV} {m : Mem}
  (h : ∀ N : fy,(∀ f' m',ev P C base y Q f' m' → N .normal f' m') → (∀ i f' m',Q (.exit i) f' m' → N (.exit i) f' m') → (∀ f' m',Q .ret f' m' → N .ret f' m') → ev P C base x N f m) : ev P C base (.seq x y) Q f m:=by
 show ev P C base x _ f m
 exact h _ (fun f' m' h=>h) (fun _ _ _ h=>h) (fun _ _ h=>h)
open Go Go.RowKit
theorem Api.give {P : Program} {fid : FuncId} {args argsV : List AV} {v : AV} (h : Api P fid argsV v) (ha : d8 argsV = true) (hv : eG v = true) (base : Nat) {rd : List (Nat × Blk)}
  (hfr : ∀ (m' : Nat → Option Blk) (w : World) (g : G) (lim : Nat),aM w g lim m' → (∀ p ∈ rd,m' p.1 = some p.2) → ∃ g1,aM w g1 lim (aX (gA rd) m') ∧ (∀ base,LeG base g g1) ∧
   (∀ v x,Rep w g lim v x → Rep w g1 lim v x) ∧ ∀ xs : List Value,ax w g lim args xs.toArray → ax w g1 lim argsV xs.toArray) : fI P base fid args ⟨v,rd,gA rd,[]⟩:=by
 refine ⟨fun m hrd w g vs hm hr=>?_⟩
 obtain ⟨g1,hm1,hl1,hr1,hr2⟩:=hfr m w g (base + L) hm hrd
 refine ((h.cact ha hv base).go (aX (gA rd) m) (by simp [vA]) w g1 vs hm1 (by have:=hr2 vs.toList (by simpa using hr);simpa using this)).mono fun e w' ⟨x,g',e1,e2,e3,e4,e5,e6⟩=>?_
 refine ⟨x,g',e1,e2,?_,⟨e4.os,e4.tape,e4.output,e4.size,fun b hb=>e4.same b ((hl1 base).ro b hb),fun b hb=>e4.others b ((hl1 base).no b hb)⟩,(hl1 base).trans e5,fun fr xs hfr=>?_⟩
 ·simp only [aD.me,vA,cH,aX] at e3 ⊢
  exact e3
 ·exact e6 fr xs ⟨hfr.1,fun i c x hc hx=>hr1 _ _ (hfr.2 i c x hc hx)⟩
open Go Go.RowKit
def Eb (rd : List (Nat × Blk)) (R : World → G → G → Nat → Prop) : Prop:=
 ∀ (m' : Nat → Option Blk) (w : World) (g : G) (lim : Nat),aM w g lim m' → (∀ p ∈ rd,m' p.1 = some p.2) → ∃ g1,aM w g1 lim (aX (gA rd) m') ∧ (∀ base,LeG base g g1) ∧
  (∀ v x,Rep w g lim v x → Rep w g1 lim v x) ∧ R w g g1 lim
theorem Eb.nil {R : World → G → G → Nat → Prop} (h : ∀ w g lim,R w g g lim) : Eb [] R:=
 fun m' w g lim hm _=>⟨g,hm,fun base=>LeG.refl base g,fun v x h=>h,h w g lim⟩
open Go Go.RowKit Go.ChangeShapes Go.WideShapes
def g0 (W : World) : G:={ ro:=fun b=>b < W.heap.size,no:=fun _=>False,al:=fun _=>False,be:=id,sz:=id }
theorem Gb (W : World) : aM W (g0 W) 0 (ak []):=
 ⟨fun k=>by simp [g0,ak],fun k hk=>hk.elim,fun k hk=>hk.elim,fun k j hk=>hk.elim,fun k b hb=>by simp [ak] at hb,fun b hb=>hb,fun b hb=>hb.elim⟩
def bZ (P : Program) (t : TypeId) (n : Nat) {α : Type} (cs : α → List AV) (ok : α → Prop) : Prop:=
 P.cellsOf t = n ∧ (∀ a,(cs a).length = n) ∧ ∀ (W : World) (H : Type) (enc : TypeId × Value → H) (fuel : Nat) (xs : List Value) (x : DataW H × List MemPlace),
  DataW.trod enc P W 0 (fun _=>true) true fuel t xs = some x → (∀ k ∈ x.1.weights P t,k ≤ reachBytes) →
  xs.length = n ∧ ∃ a,ok a ∧ ∀ (i : Nat) c y,(cs a)[i]? = some c → xs[i]? = some y → Rep W (g0 W) 0 c y
theorem eg {β : Type} {a c : β} {i : Nat} (h : [a][i]? = some c) : c = a:=by
 cases i with
 | zero=>simpa using h.symm
 | succ i=>simp at h
theorem nH {P : Program} {t : TypeId} {k : IntKind} (ht : P.underlying t = some (.int k)) (hc : P.cellsOf t = 1) : bZ P t 1 (fun n : Int=>[.lit (.int k n)]) (fun n=>k.min ≤ n ∧ n ≤ k.max):=by
 refine ⟨hc,fun _=>rfl,fun W H enc fuel xs x h _=>?_⟩
 obtain ⟨n,rfl,_,hw⟩:=DataW.trod_int ht h
 refine ⟨rfl,n,by simpa [Lit.wf] using hw,fun i c y h1 h2=>?_⟩
 rw [eg h1,eg h2];exact .lit _
theorem yI {P : Program} {t : TypeId} (ht : P.underlying t = some .bool) (hc : P.cellsOf t = 1) : bZ P t 1 (fun b : Bool=>[.lit (.bool b)]) (fun _=>True):=by
 refine ⟨hc,fun _=>rfl,fun W H enc fuel xs x h _=>?_⟩
 obtain ⟨b,rfl,_⟩:=DataW.trod_bool ht h
 refine ⟨rfl,b,trivial,fun i c y h1 h2=>?_⟩
 rw [eg h1,eg h2];exact .lit _
theorem fF {P : Program} {t : TypeId} {n : Nat} {α β : Type} {cs : α → List AV} {ok : α → Prop} (h : bZ P t n cs ok) {cs' : β → List AV} {ok' : β → Prop} (f : α → β) (hl : ∀ b,(cs' b).length = n)
  (hf : ∀ a,cs' (f a) = cs a) (ho : ∀ a,ok a → ok' (f a)) : bZ P t n cs' ok':=by
 refine ⟨h.1,hl,fun W H enc fuel xs x hx hw=>?_⟩
 obtain ⟨h1,a,h2,h3⟩:=h.2.2 W H enc fuel xs x hx hw
 exact ⟨h1,f a,ho a h2,by rw [hf];exact h3⟩
def mc (P : Program) (fs : List Field) (off : Nat) (n : Nat) {α : Type} (cs : α → List AV) (ok : α → Prop) : Prop:=
 (∀ a,(cs a).length = n) ∧ ∀ (W : World) (H : Type) (enc : TypeId × Value → H) (fuel : Nat) (xs : List Value) (ys : List (DataW H × List MemPlace)),ys.length = fs.length →
  (∀ (i : Nat) (f : Field),fs[i]? = some f → DataW.trod enc P W 0 (fun _=>true) true fuel f.type ((xs.drop f.offset).take (P.cellsOf f.type)) = ys[i]?) →
  (∀ k ∈ DataW.weightsEach P (fs.map (·.type)) (ys.map (·.1)),k ≤ reachBytes) →
  ∃ a,ok a ∧ ∀ (i : Nat) c y,(cs a)[i]? = some c → xs[off + i]? = some y → Rep W (g0 W) 0 c y
theorem wN (P : Program) (off : Nat) : mc P [] off 0 (fun _ : Unit=>[]) (fun _=>True):=
 ⟨fun _=>rfl,fun _ _ _ _ _ _ _ _ _=>⟨(),trivial,fun i c y h=>by simp at h⟩⟩
theorem uL {P : Program} {f : Field} {fs : List Field} {off n1 n2 : Nat} {α β : Type} {cs1 : α → List AV} {ok1 : α → Prop} {cs2 : β → List AV} {ok2 : β → Prop}
  (h1 : bZ P f.type n1 cs1 ok1) (ho : f.offset = off) (h2 : mc P fs (off + n1) n2 cs2 ok2) : mc P (f :: fs) off (n1 + n2) (fun p : α × β=>cs1 p.1 ++ cs2 p.2) (fun p=>ok1 p.1 ∧ ok2 p.2):=by
 refine ⟨fun p=>by rw [List.length_append,h1.2.1,h2.1],fun W H enc fuel xs ys hl hall hw=>?_⟩
 obtain ⟨y,ys,rfl⟩ : ∃ y r,ys = y :: r:=by
  cases ys with
  | nil=>simp at hl
  | cons y r=>exact ⟨y,r,rfl⟩
 have h0:=hall 0 f rfl
 simp only [List.getElem?_cons_zero] at h0
 simp only [List.map_cons,DataW.weightsEach,List.mem_append] at hw
 obtain ⟨k1,a,k2,k3⟩:=h1.2.2 W H enc fuel _ y h0 fun k hk=>hw k (.inl hk)
 obtain ⟨b,k4,k5⟩:=h2.2 W H enc fuel xs ys (by simpa using hl) (fun i g hg=>by simpa using hall (i + 1) g (by simpa using hg)) fun k hk=>hw k (.inr hk)
 refine ⟨(a,b),⟨k2,k4⟩,fun i c y hc hy=>?_⟩
 simp only at hc
 by_cases hi : i < n1
 ·rw [List.getElem?_append_left (by rw [h1.2.1];exact hi)] at hc
  refine k3 i c y hc ?_
  rw [List.getElem?_take_of_lt (by rw [h1.1];exact hi),List.getElem?_drop,ho];exact hy
 ·rw [List.getElem?_append_right (by rw [h1.2.1];omega),h1.2.1] at hc
  refine k5 (i - n1) c y hc ?_
  rw [show off + n1 + (i - n1) = off + i by omega];exact hy
theorem uM {P : Program} {t : TypeId} {fs : Array Field} {n : Nat} {α : Type} {cs : α → List AV} {ok : α → Prop} (ht : P.underlying t = some (.struct fs)) (hc : P.cellsOf t = n) (h : mc P fs.toList 0 n cs ok) : bZ P t n cs ok:=by
 refine ⟨hc,h.1,fun W H enc fuel xs x hx hw=>?_⟩
 obtain ⟨ys,m,rfl,rfl,hl,hn,hall⟩:=DataW.trod_struct ht hx
 simp only [DataW.weights,ht] at hw
 obtain ⟨a,h1,h2⟩:=h.2 W H enc m xs ys (by simpa using hn) (fun i f hf=>hall i f (by simpa using hf)) hw
 exact ⟨by rw [hl,hc],a,h1,fun i c y h3 h4=>h2 i c y h3 (by rw [Nat.zero_add];exact h4)⟩
def qw (P : Program) (L : List (TypeId × Nat)) (off : Nat) (n : Nat) {α : Type} (cs : α → List AV) (ok : α → Prop) : Prop:=
 ∀ fs : List Field,fs.map (fun f=>(f.type,f.offset)) = L → mc P fs off n cs ok
theorem eC (P : Program) (off : Nat) : qw P [] off 0 (fun _ : Unit=>[]) (fun _=>True):=by
 intro fs h
 cases fs with
 | nil=>exact wN P off
 | cons f fs=>simp at h
theorem aZ {P : Program} {t : TypeId} {L : List (TypeId × Nat)} {off n1 n2 : Nat} {α β : Type} {cs1 : α → List AV} {ok1 : α → Prop} {cs2 : β → List AV} {ok2 : β → Prop}
  (h1 : bZ P t n1 cs1 ok1) (h2 : qw P L (off + n1) n2 cs2 ok2) : qw P ((t,off) :: L) off (n1 + n2) (fun p : α × β=>cs1 p.1 ++ cs2 p.2) (fun p=>ok1 p.1 ∧ ok2 p.2):=by
 intro fs h
 cases fs with
 | nil=>simp at h
 | cons f fs =>
  simp only [List.map_cons,List.cons.injEq,Prod.mk.injEq] at h
  obtain ⟨⟨rfl,ho⟩,h⟩:=h
  exact uL h1 ho (h2 fs h)
theorem dt {P : Program} {t : TypeId} {fs : Array Field} {L : List (TypeId × Nat)} {n : Nat} {α : Type} {cs : α → List AV} {ok : α → Prop} (ht : P.underlying t = some (.struct fs)) (hL : fs.toList.map (fun f=>(f.type,f.offset)) = L) (hc : P.cellsOf t = n) (h : qw P L 0 n cs ok) : bZ P t n cs ok:=
 uM ht hc (h _ hL)
theorem rU {H : Type} {P : Program} {e : TypeId} {l : List (DataW H)} {d : DataW H} (hd : d ∈ l) {k : Nat} (hk : k ∈ d.weights P e) : k ∈ DataW.weightsAll P e l:=by
 induction l with
 | nil=>simp at hd
 | cons a r ih =>
  simp only [DataW.weightsAll,List.mem_append]
  rcases List.mem_cons.1 hd with rfl|hd
  ·exact .inl hk
  ·exact .inr (ih hd)
theorem xO {β γ : Type} (f : Nat → Option β) (R : β → γ → Prop) (p : γ → Prop) : ∀ n : Nat,(∀ i,i < n → ∃ b c,f i = some b ∧ R b c ∧ p c) → ∃ l : List γ,l.length = n ∧ (∀ c ∈ l,p c) ∧ ∀ (i : Nat) c,l[i]? = some c → ∃ b,f i = some b ∧ R b c
 | 0,_=>⟨[],rfl,by simp,by simp⟩
 | n + 1,h=>by
  obtain ⟨l,h1,h2,h3⟩:=xO f R p n fun i hi=>h i (by omega)
  obtain ⟨b,c,h4,h5,h6⟩:=h n (by omega)
  refine ⟨l ++ [c],by simp [h1],fun d hd=>?_,fun i d hd=>?_⟩
  ·rcases List.mem_append.1 hd with hd|hd
   ·exact h2 d hd
   ·simp at hd;subst hd;exact h6
  ·by_cases hi : i < n
   ·rw [List.getElem?_append_left (by omega)] at hd
    exact h3 i d hd
   ·rw [List.getElem?_append_right (by omega)] at hd
    have:=eg hd
    subst this
    have : i = n:=by
     have:=(List.getElem?_eq_some_iff.1 hd).1
     simp at this;omega
    subst this
    exact ⟨b,h4,h5⟩
theorem fd {P : Program} {t e : TypeId} (ty : Ty) {ok : El ty → Prop} (ht : P.underlying t = some (.slice e)) (hc : P.cellsOf t = 1) (hz : P.bytesOf e = bsz ty) (h : bZ P e (csz ty) (cells ty) ok) :
  bZ P t 1 (fun l : List (El ty)=>[.vec ty l]) (fun l=>(∀ a ∈ l,ok a) ∧ l.length * bsz ty ≤ 140737488351232):=by
 refine ⟨hc,fun _=>rfl,fun W H enc fuel xs x hx hw=>?_⟩
 rcases DataW.trod_slice ht hx with ⟨rfl,rfl⟩|⟨a,len,cap,elems,rest,n,rfl,rfl,rfl,_,hlc,_,hel,hall,_,_⟩
 ·refine ⟨rfl,[],⟨by simp,by simp⟩,fun i c y h1 h2=>?_⟩
  rw [eg h1,eg h2];exact .vecE _ _ _
 ·simp only [DataW.weights,ht,List.mem_cons,List.mem_append] at hw
  rcases Nat.eq_zero_or_pos len with h0|h0
  ·subst h0
   refine ⟨rfl,[],⟨by simp,by simp⟩,fun i c y h1 h2=>?_⟩
   rw [eg h1,eg h2];exact .vecE _ _ _
  ·have hcs:=cY ty
   have key : ∀ i,i < len → ∃ (b : List Value) (c : El ty),W.cells? 0 (a.add (i * P.cellsOf e)) (P.cellsOf e) = some b ∧
     (b.length = csz ty ∧ ∀ (j : Nat) cc y,(cells ty c)[j]? = some cc → b[j]? = some y → Rep W (g0 W) 0 cc y) ∧ ok c:=by
    intro i hi
    have hb:=hall i hi
    have hel' : elems[i]? = some elems[i]:=List.getElem?_eq_getElem (by omega)
    rw [hel'] at hb
    cases hcell : W.cells? 0 (a.add (i * P.cellsOf e)) (P.cellsOf e) with
    | none=>rw [hcell] at hb;cases hb
    | some b =>
     rw [hcell] at hb
     obtain ⟨k1,c,k2,k3⟩:=h.2.2 W H enc n b _ hb fun k hk=>hw k (.inr (.inl (rU (List.mem_map.2 ⟨elems[i],List.getElem_mem _,rfl⟩) hk)))
     exact ⟨b,c,rfl,⟨k1,k3⟩,k2⟩
   obtain ⟨l,hl,hok,hget⟩:=xO _ _ _ len key
   obtain ⟨bl,off,spot⟩:=a
   have hspot : spot = none:=by
    obtain ⟨b,c,hb,⟨hbl,_⟩,_⟩:=key 0 h0
    obtain ⟨_,hlen,hcell⟩:=World.cells?_some hb
    have g1:=hcell 0 (by rw [h.1];omega)
    obtain ⟨v,hv⟩ : ∃ v,b[0]? = some v:=⟨b[0],List.getElem?_eq_getElem (by omega)⟩
    rw [hv] at g1
    simpa [Addr.add] using World.cell?_spot g1
   subst hspot
   have cellAt : ∀ (i : Nat) c,(az ty l)[i]? = some c → ∃ y,W.cell? ⟨bl,off + i,none⟩ = some y ∧ Rep W (g0 W) 0 c y:=by
    intro i c hi
    have hlt : i < l.length * csz ty:=by
     have:=(List.getElem?_eq_some_iff.1 hi).1
     rwa [aQ] at this
    have hdm:=Nat.div_add_mod i (csz ty)
    have hm:=Nat.mod_lt i hcs
    have hq : i / csz ty < l.length:=Nat.div_lt_of_lt_mul (by rw [Nat.mul_comm];exact hlt)
    have hle:=List.getElem?_eq_getElem hq
    have hf:=kd ty l (i / csz ty) _ hle (i % csz ty) hm
    rw [Nat.mul_comm,hdm,hi] at hf
    obtain ⟨b,hb,hbl,hrep⟩:=hget _ _ hle
    obtain ⟨_,_,hcell⟩:=World.cells?_some hb
    have g1:=hcell (i % csz ty) (by rw [h.1];exact hm)
    have hbv : b[i % csz ty]? = some (b[i % csz ty]'(by omega)):=List.getElem?_eq_getElem (by omega)
    rw [hbv,add_plain,add_plain,h.1] at g1
    refine ⟨_,?_,hrep _ c _ hf.symm hbv⟩
    rw [← g1]
    congr 2
    rw [Nat.mul_comm (i / csz ty) (csz ty)];omega
   let xs : Nat → Value:=fun i=>(W.cell? ⟨bl,off + i,none⟩).getD undef
   refine ⟨rfl,l,⟨hok,?_⟩,fun i c y h1 h2=>?_⟩
   ·have:=hw _ (.inl rfl)
    rw [List.length_map,List.length_map,hel,hz] at this
    have e2 : len * bsz ty ≤ (len + rest.length) * bsz ty:=Nat.mul_le_mul_right _ (by omega)
    rw [hl]
    have e3 : reachBytes = 140737488351232:=rfl
    omega
   ·rw [eg h1,eg h2]
    rw [show len = l.length from hl.symm]
    refine .vec ty l bl off cap xs (by omega) ?_ (fun i c hi=>?_) fun i c hi=>?_
    ·have h00 : 0 < (az ty l).length:=by rw [aQ];exact Nat.mul_pos (by omega) hcs
     obtain ⟨y,hy,_⟩:=cellAt 0 _ (List.getElem?_eq_getElem h00)
     show bl < W.heap.size
     simp only [World.cell?] at hy
     rcases Nat.lt_or_ge bl W.heap.size with hb|hb
     ·exact hb
     ·rw [Array.getElem?_eq_none (by simpa using hb)] at hy
      simp at hy
    ·obtain ⟨y,hy,_⟩:=cellAt i c hi
     simp only [xs,hy,Option.getD_some]
    ·obtain ⟨y,hy,hr⟩:=cellAt i c hi
     simp only [xs,hy,Option.getD_some]
     exact hr
def mB (P : Program) (t : TypeId) {α : Type} (c : α → AV) (ok : α → Prop) : Prop:=
 ∀ (W : World) (H : Type) (enc : TypeId × Value → H) (base : Nat) (v : Value) (d : DataW H) (ps : List MemPlace),Value.okWide P W .any base t v → DataW.Trod enc P W 0 (fun _=>true) true t v d ps → (∀ k ∈ d.weights P t,k ≤ reachBytes) →
  ∃ a,ok a ∧ Rep W (g0 W) 0 (c a) v
theorem EH {P : Program} {t : TypeId} {α : Type} {c : α → AV} {ok : α → Prop} (h : bZ P t 1 (fun a=>[c a]) ok) (hv : ∀ (W : World) base v,Value.okWide P W .any base t v → v.cells.toList = [v]) : mB P t c ok:=by
 intro W H enc base v d ps hok ⟨fuel,hd⟩ hw
 rw [hv W base v hok] at hd
 obtain ⟨_,a,h1,h2⟩:=h.2.2 W H enc fuel _ (d,ps) hd hw
 exact ⟨a,h1,h2 0 _ _ rfl rfl⟩
theorem EI {P : Program} {t : TypeId} {n : Nat} {α : Type} {cs : α → List AV} {ok : α → Prop} (h : bZ P t n cs ok) (hv : ∀ (W : World) base v,Value.okWide P W .any base t v → ∃ xs,v = .agg xs) : mB P t (fun a=>.agg (cs a)) ok:=by
 intro W H enc base v d ps hok ⟨fuel,hd⟩ hw
 obtain ⟨xs,rfl⟩:=hv W base v hok
 obtain ⟨h0,a,h1,h2⟩:=h.2.2 W H enc fuel _ (d,ps) hd hw
 refine ⟨a,h1,.agg _ xs ?_ fun i c x hc hx=>h2 i c x hc ?_⟩
 ·rw [h.2.1];simpa [Value.cells] using h0.symm
 ·simpa [Value.cells] using hx
theorem AL {P : Program} {t e : TypeId} {ty : Ty} {ok : List (El ty) → Prop} (ht : P.underlying t = some (.slice e)) (h : bZ P t 1 (fun l : List (El ty)=>[.vec ty l]) ok) : mB P t (fun l : List (El ty)=>.vec ty l) ok:=
 EH h fun W base v h=>by obtain ⟨a,len,cap,rfl⟩:=okWide_slice ht h;rfl
theorem yJ {P : Program} {t : TypeId} {fs : Array Field} {n : Nat} {α : Type} {cs : α → List AV} {ok : α → Prop} (ht : P.underlying t = some (.struct fs)) (h : bZ P t n cs ok) : mB P t (fun a=>.agg (cs a)) ok:=
 EI h fun W base v h=>by obtain ⟨xs,rfl,_⟩:=okWide_struct ht h;exact ⟨xs,rfl⟩
def qx (P : Program) (ts : List TypeId) {α : Type} (cs : α → List AV) (ok : α → Prop) : Prop:=
 ∀ (W : World) (H : Type) (enc : TypeId × Value → H) (base : Nat) (vs : List Value) (ds : List (DataW H)) (ps : List MemPlace),(∀ (j : Nat) t v,ts[j]? = some t → vs[j]? = some v → Value.okWide P W .any base t v) →
  DataW.TrodAll enc P W 0 (fun _=>true) true ts vs ds ps → (∀ k ∈ DataW.weightsEach P ts ds,k ≤ reachBytes) →
  ∃ a,ok a ∧ (cs a).length = vs.length ∧ ∀ (i : Nat) c y,(cs a)[i]? = some c → vs[i]? = some y → Rep W (g0 W) 0 c y
theorem CQ (P : Program) : qx P [] (fun _ : Unit=>[]) (fun _=>True):=by
 intro W H enc base vs ds ps _ h _
 obtain ⟨rfl,_⟩:=trodAll_nil h
 exact ⟨(),trivial,rfl,by simp⟩
theorem nI {P : Program} {t : TypeId} {ts : List TypeId} {α β : Type} {c : α → AV} {ok1 : α → Prop} {cs : β → List AV} {ok2 : β → Prop} (h1 : mB P t c ok1) (h2 : qx P ts cs ok2) :
  qx P (t :: ts) (fun p : α × β=>c p.1 :: cs p.2) (fun p=>ok1 p.1 ∧ ok2 p.2):=by
 intro W H enc base vs ds ps hok h hw
 obtain ⟨v,vs',d,ds',p,q,rfl,rfl,rfl,hd,hrest⟩:=trodAll_cons h
 simp only [DataW.weightsEach,List.mem_append] at hw
 obtain ⟨a,a1,a2⟩:=h1 W H enc base v d p (hok 0 t v rfl rfl) hd fun k hk=>hw k (.inl hk)
 obtain ⟨b,b1,b2,b3⟩:=h2 W H enc base vs' ds' q (fun j t v ht hv=>hok (j + 1) t v (by simpa using ht) (by simpa using hv)) hrest fun k hk=>hw k (.inr hk)
 refine ⟨(a,b),⟨a1,b1⟩,by simp [b2],fun i c y hc hy=>?_⟩
 cases i with
 | zero=>simp at hc hy;subst hc;subst hy;exact a2
 | succ i=>simp at hc hy;exact b3 i c y hc hy
theorem sJ {H : Type} {enc : TypeId × Value → H} {P : Program} (hl : laidOutB P = true) {W W' : World} (hb : Below W.heap.size W W') : ∀ {ts : List TypeId} {vs : List Value} {ds : List (DataW H)} {ps : List MemPlace},
  (∀ t ∈ ts,P.readableRec t = true ∧ t < P.types.size) → (∀ p ∈ ps,p.block < W.heap.size) → DataW.TrodAll enc P W 0 (fun _=>true) true ts vs ds ps → DataW.TrodAll enc P W' 0 (fun b=>decide (b < W.heap.size)) true ts vs ds ps
 | [],vs,ds,ps,_,_,h=>by
  obtain ⟨rfl,rfl,rfl⟩:=trodAll_nil h
  rfl
 | t :: ts,vs,ds,ps,hr,hp,h=>by
  obtain ⟨v,vs',d,ds',p,q,rfl,rfl,rfl,hd,hrest⟩:=trodAll_cons h
  have h0:=hr t (by simp)
  exact ⟨p,q,Below.trod hl h0.1 h0.2 hd hb fun x hx=>hp x (List.mem_append_left _ hx),sJ hl hb (fun t ht=>hr t (by simp [ht])) (fun x hx=>hp x (List.mem_append_right _ hx)) hrest,rfl⟩
theorem wO {C : Checked} {os : Os} {f : FuncId} {fn : Func} {s : ChangeSpec} {boolT : TypeId} (own : ownKnob C.prog.godebug = none) (started : os.Started) (noInit : C.prog.inits.idxOf? f = none) (hfn : C.prog.funcs[f]? = some fn)
  (hl : laidOutB C.prog = true) (hts : ∀ t ∈ fn.params.toList,C.prog.readableRec t = true ∧ t < C.prog.types.size) (hres : fn.resultTypes = #[boolT]) (hbool : C.prog.underlying boolT = some .bool) (hvars : s.vars = [])
  {H : Type} {enc : TypeId × Value → H}
  (hspec : ∀ ds : List (DataW H),ds.length = fn.params.toList.length → s.fn H ds = { results:=[.lit (.bool true)],args:=ds })
  (witness : ∃ (w : World) (tape : Tape) (i : Input),w.os = os ∧ (w.forCall tape i).Shaped C.prog ∧ i.vars = [] ∧ Input.okWide C.prog (w.forCall tape i) .any w.heap.size f i ∧
   s.pre6 enc C.prog fn [] false (w.forCall tape i).memory i.args ∧ ({} : Assume).holds C.prog (lone (Frame.enter C.prog f i.args .normal) [] (w.forCall tape i)))
  {α : Type} {cs : α → List AV} {ok : α → Prop} (hargs : qx C.prog fn.params.toList cs ok) (api : ∀ a,ok a → Api C.prog f (cs a) (bol true)) :
  ReturnsInHanded {} C os f .any (s.pre6 enc C.prog fn [] false) (s.post enc C.prog fn false true false false):=by
 refine returnsInHanded_of_change_shaped own started noInit hfn witness ?_
 intro W base args ds gs before hval hW _ hsz _ _
 have hW':=hW
 obtain ⟨p,q,hA,hV,rfl,hfz,hnd⟩:=hW
 rw [hvars] at hV
 obtain ⟨rfl,rfl⟩:=trodVars_none hV
 simp only [List.append_nil] at hW' hsz
 have hvt : s.plain.varTypes C.prog = []:=by simp [DataSpec.varTypes,ChangeSpec.plain,hvars]
 rw [hvt,List.append_nil] at hsz
 simp only [List.all_eq_true,decide_eq_true_eq] at hsz
 obtain ⟨a,h1,h2,h3⟩:=hargs W H enc base args.toList ds p (fun j t v ht hv=>hval j t v (by simpa using ht) (by simpa using hv)) hA hsz
 have hdl : ds.length = fn.params.toList.length:=by
  have : ∀ (ts : List TypeId) (vs : List Value) (ds : List (DataW H)) (ps : List MemPlace),DataW.TrodAll enc C.prog W 0 (fun _=>true) true ts vs ds ps → ds.length = ts.length:=by
   intro ts
   induction ts with
   | nil=>intro vs ds ps h;obtain ⟨_,rfl,_⟩:=trodAll_nil h;rfl
   | cons t ts ih =>
    intro vs ds ps h
    obtain ⟨v,vs',d,ds',p,q,rfl,rfl,rfl,hd,hrest⟩:=trodAll_cons h
    simp [ih _ _ _ hrest]
  exact this _ _ _ _ hA
 refine (api a h1 W (g0 W) args (Gb W) ⟨by simpa using h2,fun i c x hc hx=>h3 i c x hc (by simpa using hx)⟩).mono fun e W' ⟨x,g',he,hr,_,ht,_⟩=>?_
 have hb : Below W.heap.size W W':=⟨ht.os,ht.tape,ht.output,ht.size.1,fun k hk=>ht.same k hk⟩
 have hx : x = .bool true:=by cases hr;rfl
 subst hx
 have hlt : ∀ x ∈ p,x.block < W.heap.size:=fun x hx=>hW'.lt x (by simpa using hx)
 refine ⟨_,he,ds,[],p,[],p,[],hW',?_,?_,?_,hb.frame _,by simp⟩
 ·rw [List.append_nil,hspec ds hdl,hres]
  exact ⟨[],[],⟨1,by simp [DataW.trod,hbool,Value.cells]⟩,rfl,rfl⟩
 ·rw [List.append_nil,hspec ds hdl]
  exact sJ hl hb hts hlt hA
 ·rw [List.append_nil,hspec ds hdl,hvars]
  rfl
theorem kV {p q : Prop} (h : q) (g : q → p:=by (intro hq;first|exact kL hq|exact kA (by assumption) hq|exact kD (by assumption) hq|exact kW aa hq|exact kC hq|exact bdA hq|exact bd2 hq|exact bdR hq|exact bdL hq)) : p:=g h
theorem kY {p q r : Prop} (h : p) (k : r) (g : r → q:=by (intro hq;(conv=>whnf);exact hq)) : p ∧ q:=⟨h,g k⟩
theorem kZ {p q : Prop} (h : q) (g : q → p:=by intro hb;first|(exfalso;omega)|contradiction|exact kB hb) : p:=g h
theorem fA0 {p : Prop} (g : p:=by (((try with_reducible refine af fun N hN hE hT=>?_);(conv=>whnf)));(repeat' (first|exact trivial|((first|((first|apply hT|apply hE|apply hN);clear hN hE hT)|(refine ⟨fun hb=>?_,fun hb=>?_⟩<;>(try simp only [nrm] at hb)<;>try exact kZ hb)|refine kV ?_)<;>((try with_reducible refine af fun N hN hE hT=>?_);(conv=>whnf)))|refine kY ?_ ?_));all_goals (first|rfl|omega|assumption|exact List.take_length|(rw [List.drop_zero];exact List.take_length)|exact iH rfl|(simp;done))) : p:=g
theorem fB0 {p : Prop} (g : p:=by ((conv=>whnf));(repeat' (first|exact trivial|((first|((first|apply hT|apply hE|apply hN);clear hN hE hT)|(refine ⟨fun hb=>?_,fun hb=>?_⟩<;>(try simp only [nrm] at hb)<;>try exact kZ hb)|refine kV ?_)<;>((try with_reducible refine af fun N hN hE hT=>?_);(conv=>whnf)))|refine kY ?_ ?_));all_goals (first|rfl|omega|assumption|exact List.take_length|(rw [List.drop_zero];exact List.take_length)|exact iH rfl|(simp;done))) : p:=g
theorem fD0 {p : Prop} (g : p:=by ((conv=>whnf));(repeat' (first|exact trivial|((first|(refine ⟨fun hb=>?_,fun hb=>?_⟩<;>(try simp only [nrm] at hb)<;>try exact kZ hb)|refine kV ?_)<;>(conv=>whnf))|refine kY ?_ ?_));all_goals (first|rfl|omega|assumption|exact List.take_length|(rw [List.drop_zero];exact List.take_length)|exact iH rfl|(simp;done))) : p:=g
theorem fR2 {p a0 a1 : Prop} (h0 : a0) (h1 : a1) (g : a0 → a1 → p:=by (intro h0 h1;(conv=>whnf));(repeat' (first|exact trivial|((first|refine kL ?_|(refine ⟨fun hb=>?_,fun hb=>?_⟩<;>(try simp only [nrm] at hb)<;>try exact kZ hb)|refine kE h0 [(0,0)] rfl ?_|refine kF h0 [(0,0)] rfl ?_|refine kR h0 [(0,0)] rfl ?_|refine kS h0 [(0,0)] rfl ?_|refine kE h1 [(0,0)] rfl ?_|refine kF h1 [(0,0)] rfl ?_|refine kR h1 [(0,0)] rfl ?_|refine kS h1 [(0,0)] rfl ?_|refine kV ?_)<;>(conv=>whnf))|refine kY ?_ ?_));all_goals (first|rfl|omega|assumption|exact List.take_length|(rw [List.drop_zero];exact List.take_length)|exact iH rfl|(simp;done))) : p:=g h0 h1
end Eng
