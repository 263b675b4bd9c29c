/- The engine, third part: drawn regions, contracts, from contracts to the stated form. -/
import Derived.Test.YtaecchphjploaaaGreatGb
import Derived.Still
import Derived.ProofKit
import Derived.HandedShaped
import Derived.Carry
import Derived.OpenShut
set_option linter.unusedSimpArgs false
set_option linter.unusedVariables false
set_option maxRecDepth 100000
set_option maxHeartbeats 16000000
namespace Eng
open Go Go.RowKit
structure Res where
 run : Bool
 c : Act1
 ov : Operand → AV
mutual
theorem fgt_id (k : Nat) : ∀ v : AV,men k v = false → fgt k v = v
 | .top,_=>rfl
 | .tt,_=>rfl
 | .ff,_=>rfl
 | .lit _,_=>rfl
 | .agg cs,h=>by simp only [fgt];rw [fgtL_id k cs (by simpa [men] using h)]
 | .tup cs,h=>by simp only [fgt];rw [fgtL_id k cs (by simpa [men] using h)]
 | .vec _ _,_=>rfl
 | .emp _,_=>rfl
 | .bl _ _,_=>rfl
 | .own t j o n c,h=>by simp only [men] at h;simp [fgt,h]
 | .ptr j o,h=>by simp only [men] at h;simp [fgt,h]
 | .rptr t j i o,h=>by simp only [men] at h;simp [fgt,h]
 | .vptr _ _ _ _,_=>rfl
 | .fec _ _ _,_=>rfl
 | .fptr _ _ _ _,_=>rfl
 | .sl,_=>rfl
 | .mp j,h=>by simp only [men] at h;simp [fgt,h]
 | .clo f a b,h=>by
  simp only [men] at h
  cases ha : menL k a with
  | true=>rw [ha] at h;cases h
  | false=>rw [ha] at h;simp only [fgt];rw [fgtL_id k a ha,fgtL_id k b h]
theorem fgtL_id (k : Nat) : ∀ cs : List AV,menL k cs = false → fgtL k cs = cs
 | [],_=>rfl
 | c :: r,h=>by
  simp only [menL] at h
  cases hc : men k c with
  | true=>rw [hc] at h;cases h
  | false=>rw [hc] at h;simp only [fgtL];rw [fgt_id k c hc,fgtL_id k r h]
end
theorem fgtB_id {k : Nat} {b : Blk} (h : menB k b = false) : fgtB k b = b:=by
 cases b with
 | box cs=>simp only [fgtB];rw [fgtL_id k cs h]
 | row t l=>rfl
 | mp ks cs=>simp only [fgtB];rw [fgtL_id k cs h]
 | pm _ _ _=>rfl
theorem put_comm' {m : Nat → Option Blk} {j k : Nat} (h : j ≠ k) (b c : Option Blk) : put (put m j b) k c = put (put m k c) j b:=by
 funext i;simp only [put]
 by_cases h1 : k = i<;>by_cases h2 : j = i<;>simp [h1,h2]
 exact absurd (h2.trans h1.symm) h
theorem put_puts (us : List (Nat × Option Blk)) {k : Nat} (c : Option Blk) (h : ∀ p ∈ us,p.1 ≠ k) (m : Nat → Option Blk) : putsM us (put m k c) = put (putsM us m) k c:=by
 induction us generalizing m with
 | nil=>rfl
 | cons p r ih =>
  obtain ⟨j,b⟩:=p
  simp only [putsM]
  rw [← ih (fun q hq=>h q (by simp [hq]))]
  rw [put_comm' (fun e=>h (j,b) (by simp) e.symm)]
theorem puts_comm (us vs : List (Nat × Option Blk)) (h : ∀ p ∈ us,∀ q ∈ vs,p.1 ≠ q.1) (m : Nat → Option Blk) : putsM us (putsM vs m) = putsM vs (putsM us m):=by
 induction vs generalizing m with
 | nil=>rfl
 | cons q r ih =>
  obtain ⟨k,c⟩:=q
  simp only [putsM]
  rw [ih (fun p hp q hq=>h p hp q (by simp [hq])),put_puts us c (fun p hp=>h p hp (k,c) (by simp))]
theorem puts_get (us : List (Nat × Option Blk)) {k : Nat} (h : ∀ p ∈ us,p.1 ≠ k) (m : Nat → Option Blk) : putsM us m k = m k:=by
 induction us generalizing m with
 | nil=>rfl
 | cons p r ih =>
  obtain ⟨j,b⟩:=p
  simp only [putsM]
  rw [ih (fun q hq=>h q (by simp [hq])),put_ne m b (h (j,b) (by simp))]
theorem aval_fput {f : List AV} {d : Option Nat} {v : AV} {x : Operand} (h : ∀ e,d = some e → x ≠ .tmp e) : aval (fput f d v) x = aval f x:=by
 cases d with
 | none=>rfl
 | some d =>
  cases x with
  | tmp t =>
   have hne : d ≠ t:=fun e=>h d rfl (by rw [e])
   simp [aval,fput,List.getElem?_set_ne hne]
  | const v=>cases v<;>first|rfl|(rename_i b;cases b<;>rfl)
  | global k=>rfl
  | func k=>rfl
def lk (ops : Array Oper) (o : Oper) : List Operand:=
 o.op.operands.toList ++ (match o.guard with
  | some (j,_)=>(((ops[j]?).bind (·.dst)).toList).map .tmp
  | none=>[])
theorem lk_looks {ops : Array Oper} {o : Oper} {d : Tmp} (h : d ∉ o.looksAt ops) : ∀ x ∈ lk ops o,x ≠ .tmp d:=by
 rintro x hx rfl
 apply h
 unfold lk at hx
 unfold Oper.looksAt
 rcases List.mem_append.1 hx with hx|hx
 ·exact List.mem_append_left _ (List.mem_filterMap.2 ⟨.tmp d,by simpa using hx,rfl⟩)
 ·refine List.mem_append_right _ ?_
  cases hg : o.guard with
  | none=>rw [hg] at hx;simp at hx
  | some p =>
   rw [hg] at hx
   simp only [List.mem_map] at hx ⊢
   obtain ⟨y,hy,hy2⟩:=hx
   cases hy2;exact hy
def Ref (a b : AV) : Prop:=a = b ∨ (a = .lit (.bool true) ∧ b = .tt) ∨ (a = .lit (.bool false) ∧ b = .ff)
theorem Ref.refl (a : AV) : Ref a a:=.inl rfl
theorem Ref.le {a b : AV} (h : Ref a b) : Le a b:=by
 rcases h with rfl|⟨rfl,rfl⟩|⟨rfl,rfl⟩
 ·exact Le.refl _
 ·intro w g lim x hx;rw [rep_lit hx];exact .tt
 ·intro w g lim x hx;rw [rep_lit hx];exact .ff
def AOv (P : Program) (base : Nat) (o : Oper) (ov : Operand → AV) (c : Act1) : Prop:=
 ∀ (f : List AV) (m : Nat → Option Blk),(∀ x ∈ o.op.operands.toList,Le (aval f x) (ov x)) → (∀ p ∈ c.rd,m p.1 = some p.2) → Ok P base o f m (c.fr f o.dst) (c.me m)
def WantOk (ops : Array Oper) (o : Oper) (r : Res) : Prop:=
 match o.guard with
 | none=>r.run = true
 | some (j,want)=>∃ oj d,ops[j]? = some oj ∧ oj.dst = some d ∧ (r.ov (.tmp d) = .tt ∧ r.run = want ∨ r.ov (.tmp d) = .ff ∧ r.run = (!want) ∨ (∃ ys,r.ov (.tmp d) = .lit (.tuple ys)) ∧ r.run = false)
structure Good (P : Program) (base : Nat) (ops : Array Oper) (o : Oper) (r : Res) : Prop where
 want : WantOk ops o r
 yes : r.run = true → AOv P base o r.ov r.c
 no : r.run = false → r.c = vA und
structure Pre (ops : Array Oper) (o : Oper) (r : Res) (f : List AV) (m : Nat → Option Blk) : Prop where
 ov : ∀ x ∈ lk ops o,Ref (aval f x) (r.ov x)
 rd : ∀ p ∈ r.c.rd,m p.1 = some p.2
structure Ids (r s : Res) : Prop where
 uu : ∀ p ∈ r.c.up,∀ q ∈ s.c.up,p.1 ≠ q.1
 ur : ∀ p ∈ r.c.up,∀ q ∈ s.c.rd,p.1 ≠ q.1
 ru : ∀ p ∈ s.c.up,∀ q ∈ r.c.rd,p.1 ≠ q.1
theorem fput_comm {f : List AV} {d e : Option Nat} {v u : AV} (h : ∀ x,d = some x → e ≠ some x) : fput (fput f d v) e u = fput (fput f e u) d v:=by
 cases d with
 | none=>rfl
 | some d =>
  cases e with
  | none=>rfl
  | some e =>
   simp only [fput]
   exact List.set_comm _ _ (fun he=>h d rfl (by rw [he]))
section
variable {P : Program} {base : Nat} {ops : Array Oper} {rs : Nat → Res} {md : Region.Mode}
def aOp (ops : Array Oper) (rs : Nat → Res) (i : Nat) (K : List AV → (Nat → Option Blk) → Prop) (f : List AV) (m : Nat → Option Blk) : Prop:=
 match ops[i]? with
 | none=>K f m
 | some o=>Pre ops o (rs i) f m ∧ K (fput f o.dst (rs i).c.v) (putsM (rs i).c.up m)
theorem aOp_mono {i : Nat} {f : List AV} {m : Nat → Option Blk} {K K' : List AV → (Nat → Option Blk) → Prop} (h : ∀ f m,K f m → K' f m) (hh : aOp ops rs i K f m) : aOp ops rs i K' f m:=by
 unfold aOp at *
 split
 ·rename_i ho;rw [ho] at hh;exact h _ _ hh
 ·rename_i o ho;rw [ho] at hh;exact ⟨hh.1,h _ _ hh.2⟩
def aAny (ops : Array Oper) (rs : Nat → Res) (md : Region.Mode) (Q : List AV → (Nat → Option Blk) → Prop) : Nat → Array Bool → List AV → (Nat → Option Blk) → Prop
 | 0,listed,f,m=>Region.ready md ops listed = [] ∧ Q f m
 | fuel + 1,listed,f,m =>
  (Region.ready md ops listed = [] → Q f m) ∧
  ∀ i ∈ Region.ready md ops listed,aOp ops rs i (aAny ops rs md Q fuel (listed.setIfInBounds i true)) f m
theorem aOp_put {i j : Nat} {oi oj : Oper} (hj : ops[j]? = some oj) (hap : oi.apart ops oj = true) (hid : Ids (rs i) (rs j))
  {K : List AV → (Nat → Option Blk) → Prop} {f : List AV} {m : Nat → Option Blk} (hy : Pre ops oi (rs i) f m)
  (h : aOp ops rs j K (fput f oi.dst (rs i).c.v) (putsM (rs i).c.up m)) :
  aOp ops rs j (fun f' m'=>Pre ops oi (rs i) f' m' ∧ K (fput f' oi.dst (rs i).c.v) (putsM (rs i).c.up m')) f m:=by
 obtain ⟨h1,h2,h3⟩:=Oper.apart_spec hap
 unfold aOp at *
 simp only [hj] at *
 obtain ⟨hp,hK⟩:=h
 have e1 : ∀ x ∈ lk ops oj,aval (fput f oi.dst (rs i).c.v) x = aval f x:=fun x hx=>aval_fput fun e he=>lk_looks (h1 e he) x hx
 have e2 : ∀ x ∈ lk ops oi,aval (fput f oj.dst (rs j).c.v) x = aval f x:=fun x hx=>aval_fput fun e he=>lk_looks (h3 e he) x hx
 refine ⟨⟨fun x hx=>by rw [← e1 x hx];exact hp.ov x hx,fun p hpm=>?_⟩,⟨fun x hx=>by rw [e2 x hx];exact hy.ov x hx,fun p hpm=>?_⟩,?_⟩
 ·rw [← puts_get (rs i).c.up (fun q hq=>hid.ur q hq p hpm) m];exact hp.rd p hpm
 ·rw [puts_get (rs j).c.up (fun q hq=>hid.ru q hq p hpm) m];exact hy.rd p hpm
 ·rw [fput_comm (fun x hx=>?_),puts_comm _ _ hid.uu]
  ·exact hK
  ·intro he;exact h2 x he hx
def Closed (md : Region.Mode) (ops : Array Oper) (listed : Array Bool) : Prop:=
 ∀ i o,ops[i]? = some o → listed.getD i true = true → ∀ e ∈ o.after,Region.binds md e = true → listed.getD e.on false = true
theorem Closed.set {listed : Array Bool} {i : Nat} (h : Closed md ops listed) (hr : i ∈ Region.ready md ops listed) : Closed md ops (listed.setIfInBounds i true):=by
 intro j o ho hl e he hb
 by_cases hij : i = j
 ·subst hij
  obtain ⟨_,o',ho',hall⟩:=mem_ready.1 hr
  rw [ho] at ho';cases ho'
  exact getD_set_true (hall e he hb)
 ·rw [getD_set_ne true hij] at hl
  exact getD_set_true (h j o ho hl e he hb)
inductive Dep (md : Region.Mode) (ops : Array Oper) : Nat → Nat → Prop where
 | one {i j : Nat} {o : Oper} {e : _} (ho : ops[i]? = some o) (he : e ∈ o.after) (hb : Region.binds md e = true) (hj : e.on = j) : Dep md ops i j
 | far {i j : Nat} {o : Oper} {e : _} (ho : ops[i]? = some o) (he : e ∈ o.after) (hb : Region.binds md e = true) (h : Dep md ops e.on j) : Dep md ops i j
theorem listed_tf {listed : Array Bool} {i : Nat} (h : listed.getD i false = true) : listed.getD i true = true:=by
 rcases Nat.lt_or_ge i listed.size with h'|h'
 ·simp [h'] at h ⊢;exact h
 ·simp [Array.getElem?_eq_none h'] at h
theorem Dep.listed {listed : Array Bool} (hc : Closed md ops listed) {i j : Nat} (h : Dep md ops i j) : (i ∈ Region.ready md ops listed ∨ listed.getD i true = true) → listed.getD j false = true:=by
 have step : ∀ {i o e},ops[i]? = some o → e ∈ o.after → Region.binds md e = true → (i ∈ Region.ready md ops listed ∨ listed.getD i true = true) → listed.getD e.on false = true:=by
  intro i o e ho he hb h
  rcases h with h|h
  ·obtain ⟨_,o',ho',hall⟩:=mem_ready.1 h
   rw [ho] at ho';cases ho'
   exact hall e he hb
  ·exact hc i o ho h e he hb
 induction h with
 | one ho he hb hj=>intro h;subst hj;exact step ho he hb h
 | far ho he hb _ ih=>intro h;exact ih (.inr (listed_tf (step ho he hb h)))
theorem not_both {listed : Array Bool} {i : Nat} (h : listed.getD i true = false) (h' : listed.getD i false = true) : False:=by
 rw [listed_tf h'] at h;cases h
theorem aAny_first {Q : List AV → (Nat → Option Blk) → Prop} {i : Nat} {oi : Oper} (hi : ops[i]? = some oi) :
  ∀ (fuel : Nat) (listed : Array Bool) (f : List AV) (m : Nat → Option Blk),Closed md ops listed →
   (∀ j oj,ops[j]? = some oj → j ≠ i → listed.getD j true = false → (∀ e ∈ oj.after,Region.binds md e = true → e.on ≠ i) → oi.apart ops oj = true ∧ (Dep md ops j i ∨ Ids (rs i) (rs j))) →
   i ∈ Region.ready md ops listed → Pre ops oi (rs i) f m →
   aAny ops rs md Q fuel (listed.setIfInBounds i true) (fput f oi.dst (rs i).c.v) (putsM (rs i).c.up m) → aAny ops rs md Q (fuel + 1) listed f m:=by
 have one : ∀ {K : List AV → (Nat → Option Blk) → Prop} {f m},Pre ops oi (rs i) f m → K (fput f oi.dst (rs i).c.v) (putsM (rs i).c.up m) → aOp ops rs i K f m:=by
  intro K f m h1 h2;unfold aOp;simp only [hi];exact ⟨h1,h2⟩
 intro fuel
 induction fuel with
 | zero =>
  intro listed f m _ _ hr hy H
  refine ⟨fun h=>(by rw [h] at hr;cases hr),fun j hj=>?_⟩
  by_cases hji : j = i
  ·subst hji;exact one hy H
  ·have:=ready_mono hj hji
   rw [H.1] at this
   cases this
 | succ fuel ih =>
  intro listed f m hcl hfree hr hy H
  refine ⟨fun h=>(by rw [h] at hr;cases hr),fun j hj=>?_⟩
  by_cases hji : j = i
  ·subst hji;exact one hy H
  ·have h1:=H.2 j (ready_mono hj hji)
   obtain ⟨hjun,oj,hoj,hall⟩:=mem_ready.1 hj
   have hiun:=(mem_ready.1 hr).1
   have hnot : ∀ e ∈ oj.after,Region.binds md e = true → e.on ≠ i:=fun e he hb heq=>by
    have h1:=hall e he hb
    rw [heq] at h1
    exact not_both hiun h1
   obtain ⟨hap,hid⟩:=hfree j oj hoj hji hjun hnot
   have hid : Ids (rs i) (rs j):=by
    rcases hid with hd|hid
    ·exact (not_both hiun (hd.listed hcl (.inl hj))).elim
    ·exact hid
   have h2:=aOp_put hoj hap hid hy h1
   have hfree' : ∀ k ok,ops[k]? = some ok → k ≠ i → (listed.setIfInBounds j true).getD k true = false →
     (∀ e ∈ ok.after,Region.binds md e = true → e.on ≠ i) → oi.apart ops ok = true ∧ (Dep md ops k i ∨ Ids (rs i) (rs k)):=fun k ok hk hki hun hno=>by
    refine hfree k ok hk hki ?_ hno
    by_cases hjk : j = k
    ·subst hjk;exact hjun
    ·rw [getD_set_ne true hjk] at hun;exact hun
   refine aOp_mono (fun f' m' h3=>ih (listed.setIfInBounds j true) f' m' (hcl.set hj) hfree' (ready_mono hr (Ne.symm hji)) h3.1 ?_) h2
   rw [Array.setIfInBounds_comm _ _ hji]
   exact h3.2
def aLex (ops : Array Oper) (rs : Nat → Res) (Q : List AV → (Nat → Option Blk) → Prop) : List Oper → Nat → List AV → (Nat → Option Blk) → Prop
 | [],_,f,m=>Q f m
 | o :: l,k,f,m=>Pre ops o (rs k) f m ∧ aLex ops rs Q l (k + 1) (fput f o.dst (rs k).c.v) (putsM (rs k).c.up m)
theorem aAny_lex {Q : List AV → (Nat → Option Blk) → Prop} (hid : ∀ i j oi oj,i < j → ops[i]? = some oi → ops[j]? = some oj → Dep md ops j i ∨ Ids (rs i) (rs j)) :
  ∀ (l : List Oper) (k : Nat) (listed : Array Bool) (f : List AV) (m : Nat → Option Blk),(∀ j,l[j]? = ops[k + j]?) → Closed md ops listed → (∀ j,j < k → listed.getD j true = true) →
   Region.lexFrom md ops l.length k listed = true → aLex ops rs Q l k f m → aAny ops rs md Q l.length listed f m
 | [],_,_,_,_,_,_,_,hB,h=>⟨by simpa [Region.lexFrom] using hB,h⟩
 | o :: l,k,listed,f,m,hl,hcl,hdone,hB,h=>by
  have h0 : ops[k]? = some o:=by simpa using (hl 0).symm
  simp only [List.length_cons,Region.lexFrom,Bool.and_eq_true] at hB
  obtain ⟨⟨hr,hf⟩,hB'⟩:=hB
  have hr' : k ∈ Region.ready md ops listed:=by simpa using hr
  refine aAny_first h0 l.length listed f m hcl (fun j oj hj hne hun hno=>⟨Region.free_spec h0 hf j oj hj hne hun hno,?_⟩) hr' h.1
   (aAny_lex hid l (k + 1) _ _ _ (fun j=>by have:=hl (j + 1);simpa [Nat.add_assoc,Nat.add_comm 1 j] using this) (hcl.set hr') (fun j hj=>?_) hB' h.2)
  ·rcases Nat.lt_or_ge k j with hkj|hkj
   ·exact hid k j o oj hkj h0 hj
   ·have:=hdone j (by omega)
    rw [this] at hun;cases hun
  ·by_cases hjk : k = j
   ·subst hjk
    have h1:=(mem_ready.1 hr').1
    rcases Nat.lt_or_ge k listed.size with h'|h'
    ·simp [h']
    ·simp [Array.getElem?_eq_none h'] at h1
   ·rw [getD_set_ne true hjk];exact hdone j (by omega)
def Inv (ops : Array Oper) (rs : Nat → Res) (listed : Array Bool) (f : List AV) (m : Nat → Option Blk) : Prop:=
 ∀ j o,ops[j]? = some o → listed.getD j true = false → ∀ k ∈ (rs j).c.fg,menL k f = false ∧ ∀ i b,m i = some b → menB k b = false
def Clean (r s : Res) : Prop:=∀ k ∈ s.c.fg,men k r.c.v = false ∧ ∀ p ∈ r.c.up,∀ b,p.2 = some b → menB k b = false
theorem menL_set {k : Nat} {v : AV} : ∀ {f : List AV} {d : Nat},menL k f = false → men k v = false → menL k (f.set d v) = false
 | [],_,h,_=>by simpa using h
 | a :: r,0,h,hv=>by simp only [menL] at h;simp only [List.set_cons_zero,menL,hv];cases ha : men k a<;>simp_all
 | a :: r,d + 1,h,hv=>by
  simp only [menL] at h
  simp only [List.set_cons_succ,menL]
  cases ha : men k a with
  | true=>simp [ha] at h
  | false=>simp [ha] at h ⊢;exact menL_set h hv
theorem puts_all {p : Blk → Prop} (us : List (Nat × Option Blk)) : ∀ (m : Nat → Option Blk),(∀ i b,m i = some b → p b) → (∀ q ∈ us,∀ b,q.2 = some b → p b) → ∀ i b,putsM us m i = some b → p b:=by
 induction us with
 | nil=>intro m h _;exact h
 | cons q r ih =>
  intro m h hq
  obtain ⟨k,b⟩:=q
  refine ih _ (fun i b' hb=>?_) (fun q hq'=>hq q (by simp [hq']))
  unfold put at hb
  split at hb
  ·exact hq (k,b) (by simp) b' hb
  ·exact h i b' hb
theorem fgtsF_id {ks : List Nat} {f : List AV} (h : ∀ k ∈ ks,menL k f = false) : fgtsF ks f = f:=by
 induction ks with
 | nil=>rfl
 | cons k r ih=>simp only [fgtsF];rw [fgtL_id k f (h k (by simp))];exact ih fun j hj=>h j (by simp [hj])
theorem fgtsM_id {ks : List Nat} {m : Nat → Option Blk} (h : ∀ k ∈ ks,∀ i b,m i = some b → menB k b = false) : fgtsM ks m = m:=by
 induction ks with
 | nil=>rfl
 | cons k r ih =>
  simp only [fgtsM]
  have : fgtM k m = m:=by
   funext i;simp only [fgtM]
   cases hm : m i with
   | none=>rfl
   | some b=>simp [fgtB_id (h k (by simp) i b hm)]
  rw [this];exact ih fun j hj=>h j (by simp [hj])
theorem wanted_ok {o : Oper} {r : Res} {f : List AV} {m : Nat → Option Blk} {w : World} {g : G} {lim : Nat} {a : Act} (hw : WantOk ops o r) (hp : Pre ops o r f m) (hs : Sim w g lim f m a) :
  Region.wanted o (yielded ops a.tmps) = r.run:=by
 unfold WantOk at hw
 cases hg : o.guard with
 | none=>rw [hg] at hw;simp [Region.wanted,hg,hw]
 | some p =>
  obtain ⟨j,want⟩:=p
  rw [hg] at hw
  obtain ⟨oj,d,hj,hd,hv⟩:=hw
  have hmem : Operand.tmp d ∈ lk ops o:=by
   unfold lk
   refine List.mem_append_right _ ?_
   simp [hg,hj,hd]
  have hle:=(hp.ov _ hmem).le w g lim _ (rep_aval hs (.tmp d))
  have key : ∀ b : Bool,a.eval (.tmp d) = .bool b → Region.wanted o (yielded ops a.tmps) = (b == want):=by
   intro b hb
   have hx : a.tmps[d]? = some (.bool b):=by
    simp only [Act.eval,Array.getD] at hb
    split at hb
    ·rename_i h;simp at hb;rw [Array.getElem?_eq_getElem h,hb]
    ·cases hb
   have hy : yielded ops a.tmps j = some b:=by
    unfold yielded
    simp [hj,hd,hx]
   simp only [Region.wanted,hg,hy]
   cases b<;>cases want<;>rfl
  rcases hv with ⟨h1,h2⟩|⟨h1,h2⟩|⟨⟨ys,h1⟩,h2⟩
  ·rw [h1] at hle
   rw [key true (by generalize hE : a.eval (.tmp d) = E at hle;cases hle;rfl),h2];cases want<;>rfl
  ·rw [h1] at hle
   rw [key false (by generalize hE : a.eval (.tmp d) = E at hle;cases hle;rfl),h2];cases want<;>rfl
  ·rw [h1] at hle
   have hb:=rep_lit hle
   have hy : yielded ops a.tmps j = none:=by
    unfold yielded
    simp only [Act.eval,Array.getD] at hb
    split at hb
    ·rename_i h;simp at hb;simp [hj,hd,Array.getElem?_eq_getElem h,hb]
    ·rename_i h;simp [hj,hd,Array.getElem?_eq_none (Nat.le_of_not_lt h)]
   simp only [Region.wanted,hg,hy,h2]
   rfl
theorem aAny_ok (hgood : ∀ i o,ops[i]? = some o → Good P base ops o (rs i)) (hcln : ∀ i j oi oj,i ≠ j → ops[i]? = some oi → ops[j]? = some oj → Dep md ops i j ∨ Clean (rs i) (rs j))
  {Q : List AV → (Nat → Option Blk) → Prop} {Q' : Exit → Act → World → Prop} :
  ∀ (fuel : Nat) (listed : Array Bool) (f : List AV) (m : Nat → Option Blk),Closed md ops listed → Inv ops rs listed f m → aAny ops rs md Q fuel listed f m →
   ∀ (w : World) (g : G) (a : Act),Sim w g (base + L) f m a →
   (∀ f' m' w' g' a',Q f' m' → Sim w' g' (base + L) f' m' a' → Tr g w w' → LeG base g g' → Q' .normal a' w') → wpAny P md ops Q' fuel listed a w:=by
 intro fuel
 induction fuel with
 | zero=>intro listed f m _ _ h w g a hs hQ;exact ⟨h.1,hQ f m w g a h.2 hs (Tr.refl g w) (LeG.refl base g)⟩
 | succ fuel ih =>
  intro listed f m hcl hinv h w g a hs hQ
  refine ⟨fun h0=>hQ f m w g a (h.1 h0) hs (Tr.refl g w) (LeG.refl base g),fun i hi=>?_⟩
  have h1:=h.2 i hi
  obtain ⟨hiun,o,ho,_⟩:=mem_ready.1 hi
  unfold aOp at h1
  unfold wpOp
  simp only [ho] at h1 ⊢
  obtain ⟨hp,hK⟩:=h1
  have hg:=hgood i o ho
  have hinv' : Inv ops rs (listed.setIfInBounds i true) (fput f o.dst (rs i).c.v) (putsM (rs i).c.up m):=by
   intro j oj hj hun k hk
   have hij : i ≠ j:=by
    rintro rfl
    rcases Nat.lt_or_ge i listed.size with h'|h'
    ·simp [h'] at hun
    ·simp [Array.getElem?_eq_none h'] at hiun
   rw [getD_set_ne true hij] at hun
   obtain ⟨i1,i2⟩:=hinv j oj hj hun k hk
   have hc : Clean (rs i) (rs j):=by
    rcases hcln i j o oj hij ho hj with hd|hc
    ·exact (not_both hun (hd.listed hcl (.inl hi))).elim
    ·exact hc
   refine ⟨?_,puts_all _ _ i2 (hc k hk).2⟩
   cases o.dst with
   | none=>exact i1
   | some d=>exact menL_set i1 (hc k hk).1
  rw [wanted_ok hg.want hp hs]
  cases hrun : (rs i).run with
  | true =>
   simp only [if_true]
   refine .inl (hg.yes hrun f m (fun x hx=>(hp.ov x (List.mem_append_left _ hx)).le) hp.rd w g a hs _ _ fun w' g' a' hs' ht hl=>?_)
   have e1 : (rs i).c.fr f o.dst = fput f o.dst (rs i).c.v:=by
    unfold Act1.fr;rw [fgtsF_id fun k hk=>(hinv i o ho hiun k hk).1]
   have e2 : (rs i).c.me m = putsM (rs i).c.up m:=by
    unfold Act1.me;rw [fgtsM_id fun k hk=>(hinv i o ho hiun k hk).2]
   rw [e1,e2] at hs'
   exact ih _ _ _ (hcl.set hi) hinv' hK w' g' a' hs' fun f2 m2 w2 g2 a2 q1 q2 q3 q4=>hQ f2 m2 w2 g2 a2 q1 q2 (ht.trans hl q3) (hl.trans q4)
  | false =>
   simp only [Bool.false_eq_true,if_false]
   rw [hg.no hrun] at hK hinv'
   exact ih _ _ _ (hcl.set hi) hinv' hK w g _ (hs.put (.lit _) o.dst) hQ
end
open Go Go.RowKit
def allIx {α : Type} (p : Nat → α → Bool) : Nat → List α → Bool
 | _,[]=>true
 | i,a :: l=>match p i a with|true=>allIx p (i + 1) l|false=>false
theorem allIx_get {α : Type} {p : Nat → α → Bool} : ∀ {l : List α} {k : Nat},allIx p k l = true → ∀ {j : Nat} {a : α},l[j]? = some a → p (k + j) a = true
 | [],_,_,_,_,hj=>by simp at hj
 | a :: l,k,h,j,b,hj=>by
  simp only [allIx] at h
  cases hp : p k a with
  | false=>rw [hp] at h;cases h
  | true =>
   rw [hp] at h
   cases j with
   | zero=>simp at hj;subst hj;exact hp
   | succ j =>
    have:=allIx_get (l:=l) h (j:=j) (a:=b) (by simpa using hj)
    rw [← this];congr 1;omega
def allL {α : Type} (p : α → Bool) : List α → Bool
 | []=>true
 | a :: l=>match p a with|true=>allL p l|false=>false
theorem allL_get {α : Type} {p : α → Bool} : ∀ {l : List α},allL p l = true → ∀ a ∈ l,p a = true
 | [],_,_,ha=>by cases ha
 | a :: l,h,b,hb=>by
  simp only [allL] at h
  cases hp : p a with
  | false=>rw [hp] at h;cases h
  | true =>
   rw [hp] at h
   rcases List.mem_cons.1 hb with rfl|hb
   ·exact hp
   ·exact allL_get h b hb
def cleanB (r s : Res) : Bool:=allL (fun k=>match men k r.c.v with|true=>false|false=>allL (fun p=>match p.2 with|none=>true|some b=>!menB k b) r.c.up) s.c.fg
theorem cleanB_ok {r s : Res} (h : cleanB r s = true) : Clean r s:=by
 intro k hk
 have h1:=allL_get h k hk
 cases hm : men k r.c.v with
 | true=>rw [hm] at h1;cases h1
 | false =>
  rw [hm] at h1
  refine ⟨rfl,fun p hp b hb=>?_⟩
  have h2:=allL_get h1 p hp
  simp only [hb] at h2
  simpa using h2
def neB (a b : Nat) : Bool:=match Nat.beq a b with|true=>false|false=>true
theorem neB_ok {a b : Nat} (h : neB a b = true) : a ≠ b:=by
 unfold neB at h
 split at h
 ·cases h
 ·rename_i hb;exact nbf.1 hb
def idsB (r s : Res) : Bool:=
 match allL (fun (p : Nat × Option Blk)=>match allL (fun (q : Nat × Option Blk)=>neB p.1 q.1) s.c.up with|true=>allL (fun (q : Nat × Blk)=>neB p.1 q.1) s.c.rd|false=>false) r.c.up with
 | true=>allL (fun (p : Nat × Option Blk)=>allL (fun (q : Nat × Blk)=>neB p.1 q.1) r.c.rd) s.c.up
 | false=>false
theorem idsB_ok {r s : Res} (h : idsB r s = true) : Ids r s:=by
 unfold idsB at h
 split at h
 ·rename_i h1
  have key : ∀ p ∈ r.c.up,(∀ q ∈ s.c.up,p.1 ≠ q.1) ∧ ∀ q ∈ s.c.rd,p.1 ≠ q.1:=by
   intro p hp
   have h2:=allL_get h1 p hp
   split at h2
   ·rename_i h3;exact ⟨fun q hq=>neB_ok (allL_get h3 q hq),fun q hq=>neB_ok (allL_get h2 q hq)⟩
   ·cases h2
  exact ⟨fun p hp=>(key p hp).1,fun p hp=>(key p hp).2,fun p hp q hq=>neB_ok (allL_get (allL_get h p hp) q hq)⟩
 ·cases h
def nthM : List Nat → Nat → Nat
 | [],_=>0
 | a :: _,0=>a
 | _ :: r,n + 1=>nthM r n
def maskE (md : Region.Mode) (acc : List Nat) : List Edge → Nat
 | []=>0
 | e :: l=>match Region.binds md e with
  | true=>Nat.lor (Nat.lor (2 ^ e.on) (nthM acc e.on)) (maskE md acc l)
  | false=>maskE md acc l
def masks (md : Region.Mode) : List Oper → List Nat → List Nat
 | [],acc=>acc
 | o :: l,acc=>masks md l (acc ++ [maskE md acc o.after.toList])
theorem nthM_eq (l : List Nat) (n : Nat) : nthM l n = (l[n]?).getD 0:=by
 induction l generalizing n with
 | nil=>rfl
 | cons a r ih=>cases n<;>simp [nthM,ih]
theorem maskE_ok {md : Region.Mode} {ops : Array Oper} {acc : List Nat} (hacc : ∀ i j,(nthM acc i).testBit j = true → Dep md ops i j) {k : Nat} {o : Oper} (ho : ops[k]? = some o) :
  ∀ (l : List Edge),(∀ e ∈ l,e ∈ o.after) → ∀ j,(maskE md acc l).testBit j = true → Dep md ops k j
 | [],_,j,h=>by simp [maskE] at h
 | e :: l,hl,j,h=>by
  simp only [maskE] at h
  split at h
  ·rename_i hb
   have h : (((2 ^ e.on) ||| (nthM acc e.on)) ||| (maskE md acc l)).testBit j = true:=h
   rw [Nat.testBit_or,Nat.testBit_or,Nat.testBit_two_pow] at h
   simp only [Bool.or_eq_true,decide_eq_true_eq] at h
   rcases h with (h|h)|h
   ·exact .one ho (hl e (by simp)) hb h
   ·exact .far ho (hl e (by simp)) hb (hacc _ _ h)
   ·exact maskE_ok hacc ho l (fun e he=>hl e (by simp [he])) j h
  ·exact maskE_ok hacc ho l (fun e he=>hl e (by simp [he])) j h
theorem masks_ok {md : Region.Mode} {ops : Array Oper} : ∀ (l : List Oper) (acc : List Nat),(∀ j,l[j]? = ops[acc.length + j]?) → (∀ i j,(nthM acc i).testBit j = true → Dep md ops i j) →
  ∀ i j,(nthM (masks md l acc) i).testBit j = true → Dep md ops i j
 | [],acc,_,hacc=>hacc
 | o :: l,acc,hl,hacc=>by
  refine masks_ok l _ (fun j=>?_) ?_
  ·have:=hl (j + 1)
   simpa [Nat.add_assoc,Nat.add_comm 1 j] using this
  ·intro i j h
   rw [nthM_eq] at h
   rcases Nat.lt_trichotomy i acc.length with hi|hi|hi
   ·rw [List.getElem?_append_left hi] at h
    exact hacc i j (by rw [nthM_eq];exact h)
   ·subst hi
    rw [List.getElem?_append_right (Nat.le_refl _)] at h
    simp at h
    exact maskE_ok hacc (by simpa using (hl 0).symm) _ (fun e he=>by simpa using he) j h
   ·rw [List.getElem?_append_right (by omega)] at h
    have : ([maskE md acc o.after.toList] : List Nat)[i - acc.length]? = none:=List.getElem?_eq_none (by simp;omega)
    rw [this] at h;simp at h
def orB (a b : Bool) : Bool:=match a with|true=>true|false=>b
theorem orB_ok {a b : Bool} (h : orB a b = true) : a = true ∨ b = true:=by cases a<;>simp_all [orB]
def andB (a b : Bool) : Bool:=match a with|true=>b|false=>false
theorem andB_ok {a b : Bool} (h : andB a b = true) : a = true ∧ b = true:=by cases a<;>simp_all [andB]
def pairB (ms : List Nat) (i : Nat) (r : Res) (j : Nat) (s : Res) : Bool:=
 orB (Nat.beq i j) (andB (orB ((nthM ms i).testBit j) (cleanB r s)) (orB (Nat.ble j i) (orB ((nthM ms j).testBit i) (idsB r s))))
def memB (k : Nat) : Mem → Bool
 | []=>true
 | (_,b) :: r=>match menB k b with|true=>false|false=>memB k r
theorem memB_ok {k : Nat} : ∀ {m : Mem},memB k m = true → ∀ i b,mget m i = some b → menB k b = false
 | [],_,i,b,hb=>by simp [mget] at hb
 | (j,c) :: r,h,i,b,hb=>by
  simp only [memB] at h
  split at h
  ·cases h
  ·rename_i hc
   simp only [mget] at hb
   split at hb
   ·cases hb;exact hc
   ·exact memB_ok h i b hb
def startB (f : List AV) (m : Mem) (_ : Nat) (r : Res) : Bool:=allL (fun k=>match menL k f with|true=>false|false=>memB k m) r.c.fg
def confB (md : Region.Mode) (ops : List Oper) (rs : List Res) (f : List AV) (m : Mem) : Bool:=
 andB (allIx (startB f m) 0 rs) (allIx (fun i r=>allIx (fun j s=>pairB (masks md ops []) i r j s) 0 rs) 0 rs)
def guardR (all : List Oper) (f : List AV) (gd : Option (Nat × Bool)) (run skip : List AV → Prop) : Prop:=
 match gd with
 | none=>run f
 | some (j,want)=>match opAt all j with
  | some oj=>match oj.dst with
   | some d=>nthK f d fun v=>match v with
    | .tt=>match want with|true=>run f|false=>skip f
    | .ff=>match want with|true=>skip f|false=>run f
    | .lit (.bool b)=>(b = true → setK f d .tt fun f=>match want with|true=>run f|false=>skip f) ∧
     (b = false → setK f d .ff fun f=>match want with|true=>skip f|false=>run f)
    | .lit (.tuple _)=>skip f
    | _=>False
   | none=>False
  | none=>False
def callD (P : Program) (C : Cfg2) (base : Nat) (f : List AV) (m : Mem) (fo : Operand) (args : List Operand) (K : Act1 → Prop) : Prop:=
 avalK f fo fun fv=>calleeK fv fun g fs cs=>avalsK f args fun vs=>appK vs cs fun vc=>appK fs vc fun all=>match C.fn g with
  | true=>∃ c : Act1,(∀ p ∈ c.rd,mget m p.1 = some p.2) ∧ CAct P base g all c ∧ K c
  | false=>False
def stepD (P : Program) (C : Cfg2) (base : Nat) (f : List AV) (m : Mem) (o : Oper) (K : Act1 → Prop) : Prop:=
 match o.op with
 | .call { callee:=.value fo,args:=args,argTypes:=_ }=>callD P C base f m fo args.toList K
 | _=>opA P C.toCfg base f m o K
def drawK (P : Program) (C : Cfg2) (base : Nat) (all : List Oper) : List Oper → List AV → Mem → (List Res → List AV → Mem → Prop) → Prop
 | [],f,m,K=>K [] f m
 | o :: l,f,m,K=>guardR all f o.guard
  (fun f=>stepD P C base f m o fun c=>match c with|⟨v,rd,up,fg⟩=>putsC up m fun m=>fputK f o.dst v fun f'=>drawK P C base all l f' m fun rs=>K (⟨true,⟨v,rd,up,fg⟩,aval f⟩ :: rs))
  (fun f=>fputK f o.dst und fun f'=>drawK P C base all l f' m fun rs=>K (⟨false,vA und,aval f⟩ :: rs))
def RefL (f fr : List AV) : Prop:=f.length = fr.length ∧ ∀ i : Nat,Ref ((f[i]?).getD und) ((fr[i]?).getD und)
theorem RefL.refl (f : List AV) : RefL f f:=⟨rfl,fun _=>Ref.refl _⟩
theorem RefL.aval {f fr : List AV} (h : RefL f fr) (x : Operand) : Ref (aval f x) (aval fr x):=by
 cases x with
 | tmp t=>exact h.2 t
 | const v=>cases v<;>first|exact Ref.refl _|(rename_i b;cases b<;>exact Ref.refl _)
 | global k=>exact Ref.refl _
 | func k=>exact Ref.refl _
theorem RefL.fput {f fr : List AV} (h : RefL f fr) (d : Option Nat) (v : AV) : RefL (fput f d v) (fput fr d v):=by
 cases d with
 | none=>exact h
 | some d =>
  refine ⟨by simp [Eng.fput,h.1],fun i=>?_⟩
  simp only [Eng.fput,List.getElem?_set]
  by_cases hd : d = i
  ·subst hd
   simp only [if_true,h.1]
   exact Ref.refl _
  ·simp only [if_neg hd];exact h.2 i
theorem RefL.set {f fr : List AV} (h : RefL f fr) {d : Nat} {b : Bool} (hv : fr[d]? = some (.lit (.bool b))) : RefL f (fr.set d (match b with|true=>.tt|false=>.ff)):=by
 refine ⟨by simp [h.1],fun i=>?_⟩
 rw [List.getElem?_set]
 by_cases hd : d = i
 ·subst hd
  have hlt : d < fr.length:=(List.getElem?_eq_some_iff.1 hv).1
  have:=h.2 d
  rw [hv] at this
  simp only [Option.getD_some] at this
  simp only [if_true,hlt,Option.getD_some]
  rcases this with e|⟨_,e⟩|⟨_,e⟩
  ·rw [e];cases b
   ·exact .inr (.inr ⟨rfl,rfl⟩)
   ·exact .inr (.inl ⟨rfl,rfl⟩)
  ·cases e
  ·cases e
 ·simp only [if_neg hd];exact h.2 i
theorem guardR_ok {all : List Oper} {fr : List AV} {o : Oper} {run skip : List AV → Prop} (h : guardR all fr o.guard run skip) {f : List AV} (hr : RefL f fr) :
  ∃ fr',RefL f fr' ∧ ((run fr' ∧ ∀ c,WantOk all.toArray o ⟨true,c,aval fr'⟩) ∨ (skip fr' ∧ ∀ c,WantOk all.toArray o ⟨false,c,aval fr'⟩)):=by
 unfold guardR at h
 cases hg : o.guard with
 | none=>rw [hg] at h;exact ⟨fr,hr,.inl ⟨h,fun c=>by unfold WantOk;simp [hg]⟩⟩
 | some p =>
  obtain ⟨j,want⟩:=p
  rw [hg] at h
  simp only at h
  rw [opAt_eq] at h
  cases hj : all[j]? with
  | none=>rw [hj] at h;exact h.elim
  | some oj =>
  rw [hj] at h
  simp only at h
  cases hd : oj.dst with
  | none=>rw [hd] at h;exact h.elim
  | some d =>
  rw [hd] at h
  simp only at h
  rw [nthK_eq] at h
  have hj' : all.toArray[j]? = some oj:=by simpa using hj
  have wo : ∀ (b r : Bool) (f' : List AV) (c : Act1),(f'[d]?).getD und = (match b with|true=>.tt|false=>.ff) → r = (b == want) → WantOk all.toArray o ⟨r,c,aval f'⟩:=by
   intro b r f' c hb hrr
   unfold WantOk
   simp only [hg]
   refine ⟨oj,d,hj',hd,?_⟩
   simp only [aval,hb,hrr]
   cases b<;>cases want<;>simp
  split at h
  ·rename_i hv
   cases want with
   | true=>exact ⟨fr,hr,.inl ⟨h,fun c=>wo true _ fr c hv rfl⟩⟩
   | false=>exact ⟨fr,hr,.inr ⟨h,fun c=>wo true _ fr c hv rfl⟩⟩
  ·rename_i hv
   cases want with
   | true=>exact ⟨fr,hr,.inr ⟨h,fun c=>wo false _ fr c hv rfl⟩⟩
   | false=>exact ⟨fr,hr,.inl ⟨h,fun c=>wo false _ fr c hv rfl⟩⟩
  ·rename_i b hv
   rw [setK_eq,setK_eq] at h
   have hlt : fr[d]? = some (.lit (.bool b)):=by
    cases hf : fr[d]? with
    | none=>rw [hf] at hv;cases hv
    | some x=>rw [hf] at hv;simp at hv;rw [hv]
   have hl : d < fr.length:=(List.getElem?_eq_some_iff.1 hlt).1
   cases b with
   | true =>
    have h:=h.1 rfl
    refine ⟨_,hr.set hlt,?_⟩
    have e : ((fr.set d AV.tt)[d]?).getD und = .tt:=by simp [hl]
    cases want with
    | true=>exact .inl ⟨h,fun c=>wo true _ _ c e rfl⟩
    | false=>exact .inr ⟨h,fun c=>wo true _ _ c e rfl⟩
   | false =>
    have h:=h.2 rfl
    refine ⟨_,hr.set hlt,?_⟩
    have e : ((fr.set d AV.ff)[d]?).getD und = .ff:=by simp [hl]
    cases want with
    | true=>exact .inr ⟨h,fun c=>wo false _ _ c e rfl⟩
    | false=>exact .inl ⟨h,fun c=>wo false _ _ c e rfl⟩
  ·rename_i ys hv
   refine ⟨fr,hr,.inr ⟨h,fun c=>?_⟩⟩
   unfold WantOk
   simp only [hg]
   exact ⟨oj,d,hj',hd,.inr (.inr ⟨⟨ys,hv⟩,by simp⟩)⟩
  ·exact h.elim
theorem stepD_ok {P : Program} {C : Cfg2} (hC : Cfg2Ok P C) {base : Nat} {f : List AV} {m : Mem} {o : Oper} {K : Act1 → Prop} (h : stepD P C base f m o K) :
  ∃ c,K c ∧ (∀ p ∈ c.rd,mget m p.1 = some p.2) ∧ AOv P base o (aval f) c:=by
 unfold stepD at h
 split at h
 case h_1 fo args ats ho =>
  unfold callD at h
  rw [avalK_eq] at h
  obtain ⟨g,fs,cs,h,hc⟩:=calleeK_ok h
  rw [avalsK_eq,appK_eq,appK_eq] at h
  cases hg : C.fn g with
  | false=>rw [hg] at h;exact h.elim
  | true =>
  rw [hg] at h
  obtain ⟨c,hrd,hca,hK⟩:=h
  refine ⟨c,hK,hrd,?_⟩
  intro f' m' hop hrd' w gh a hs N Q hN
  have hops : ∀ x,x = fo ∨ x ∈ args.toList → Le (aval f' x) (aval f x):=by
   intro x hx
   apply hop
   rw [ho]
   rcases hx with rfl|hx
   ·simp [Op.operands,Call.operands]
   ·simp [Op.operands,Call.operands];right;simpa using hx
  refine calls_wp hC (f:=f') ho hg (fun {w gh lim x} hr=>hc (hops fo (.inl rfl) _ _ _ _ hr)) hs N Q fun vs hvs=>?_
  have hvs' : RepL w gh (base + L) (fs ++ (args.toList.map (aval f) ++ cs)) vs:=by
   refine ⟨by simpa using hvs.1,fun i x y hx hy=>?_⟩
   by_cases h1 : i < fs.length
   ·exact hvs.2 i x y (by rw [List.getElem?_append_left h1] at hx ⊢;exact hx) hy
   ·rw [List.getElem?_append_right (by omega)] at hx
    by_cases h2 : i - fs.length < args.size
    ·rw [List.getElem?_append_left (by simpa using h2)] at hx
     simp only [List.getElem?_map,Option.map_eq_some_iff] at hx
     obtain ⟨z,hz,rfl⟩:=hx
     refine hops z (.inr (List.mem_of_getElem? hz)) _ _ _ _ (hvs.2 i (aval f' z) y ?_ hy)
     rw [List.getElem?_append_right (by omega),List.getElem?_append_left (by simpa using h2)]
     simp only [List.getElem?_map,hz,Option.map_some]
    ·refine hvs.2 i x y ?_ hy
     rw [List.getElem?_append_right (by omega),List.getElem?_append_right (by simp;omega)]
     rw [List.getElem?_append_right (by simp;omega)] at hx
     simpa using hx
  refine (hca.go m' hrd' w gh vs hs.me hvs').mono fun e w' ⟨x,g',e1,e2,e3,e4,e5,e6⟩=>⟨x,e1,?_⟩
  exact hN w' g' _ ⟨(e6 _ _ hs.fr).put e2 o.dst,(Act.put_df _ _ _).trans hs.df,e3⟩ e4 e5
 case h_2 =>
  obtain ⟨c,hK,hrd,hok⟩:=opA_ok hC.toCfgOk h
  exact ⟨c,hK,hrd,hok⟩
theorem drawK_ok {P : Program} {C : Cfg2} (hC : Cfg2Ok P C) {base : Nat} {all : List Oper} : ∀ (l : List Oper) (k : Nat) (fr : List AV) (m : Mem) (K : List Res → List AV → Mem → Prop),drawK P C base all l fr m K →
  ∀ f,RefL f fr → ∃ rs fr' m' f',rs.length = l.length ∧ K rs fr' m' ∧ RefL f' fr' ∧ (∀ (j : Nat) (o : Oper) (r : Res),l[j]? = some o → rs[j]? = some r → Good P base all.toArray o r) ∧
   (∀ rs' : Nat → Res,(∀ (j : Nat) (r : Res),rs[j]? = some r → rs' (k + j) = r) → aLex all.toArray rs' (fun a b=>a = f' ∧ b = mget m') l k f (mget m))
 | [],_,fr,m,K,h,f,hr=>⟨[],fr,m,f,rfl,h,hr,fun j o r ho=>by simp at ho,fun rs' _=>⟨rfl,rfl⟩⟩
 | o :: l,k,fr,m,K,h,f,hr=>by
  simp only [drawK] at h
  obtain ⟨fr1,hr1,hh⟩:=guardR_ok h hr
  rcases hh with ⟨h1,hw⟩|⟨h1,hw⟩
  ·obtain ⟨c,hK,hrd,hok⟩:=stepD_ok hC h1
   replace hK : putsC c.up m fun m=>fputK fr1 o.dst c.v fun f'=>drawK P C base all l f' m fun rs=>K (⟨true,c,aval fr1⟩ :: rs):=hK
   obtain ⟨m1,hK,hm1⟩:=putsC_eq _ _ _ hK
   rw [fputK_eq] at hK
   obtain ⟨rs,fr',m',f',e1,e2,e3,e4,e5⟩:=drawK_ok hC l (k + 1) _ m1 _ hK _ (hr1.fput o.dst c.v)
   refine ⟨_,fr',m',f',by simp [e1],e2,e3,?_,?_⟩
   ·intro j o' r ho' hr'
    cases j with
    | zero =>
     simp at ho' hr';subst ho';subst hr'
     exact ⟨hw c,fun _=>hok,fun he=>by cases he⟩
    | succ j=>exact e4 j o' r (by simpa using ho') (by simpa using hr')
   ·intro rs' hrs
    have h0 : rs' k = ⟨true,c,aval fr1⟩:=by simpa using hrs 0 _ rfl
    refine ⟨⟨fun x hx=>?_,fun p hp=>?_⟩,?_⟩
    ·rw [h0];exact hr1.aval x
    ·rw [h0] at hp;exact hrd p hp
    ·rw [h0,← hm1]
     exact e5 rs' fun j r hj=>by rw [← hrs (j + 1) r (by simpa using hj)];congr 1;omega
  ·rw [fputK_eq] at h1
   obtain ⟨rs,fr',m',f',e1,e2,e3,e4,e5⟩:=drawK_ok hC l (k + 1) _ m _ h1 _ (hr1.fput o.dst und)
   refine ⟨_,fr',m',f',by simp [e1],e2,e3,?_,?_⟩
   ·intro j o' r ho' hr'
    cases j with
    | zero =>
     simp at ho' hr';subst ho';subst hr'
     exact ⟨hw _,(by intro he;cases he),fun _=>rfl⟩
    | succ j=>exact e4 j o' r (by simpa using ho') (by simpa using hr')
   ·intro rs' hrs
    have h0 : rs' k = ⟨false,vA und,aval fr1⟩:=by simpa using hrs 0 _ rfl
    refine ⟨⟨fun x hx=>?_,fun p hp=>?_⟩,?_⟩
    ·rw [h0];exact hr1.aval x
    ·rw [h0] at hp;simp [vA] at hp
    ·rw [h0]
     exact e5 rs' fun j r hj=>by rw [← hrs (j + 1) r (by simpa using hj)];congr 1;omega
theorem Draws.of {P : Program} {C : Cfg2} (hC : Cfg2Ok P C) {base : Nat} {ops : Array Oper} {f : List AV} {m : Mem} {K : List AV → Mem → Prop} (hB : Region.lexB .any ops = true)
  (h : drawK P C base ops.toList ops.toList f m fun rs fr m'=>confB .any ops.toList rs f m = true ∧ K fr m') : Draws P base ops f m K:=by
 refine ⟨fun id=>⟨fun w g a hs=>?_⟩⟩
 obtain ⟨rs,fr',m',f',e1,⟨hconf,hK⟩,e3,e4,e5⟩:=drawK_ok hC ops.toList 0 f m _ h f (RefL.refl f)
 obtain ⟨c1,c2⟩:=andB_ok hconf
 let rn : Nat → Res:=fun i=>(rs[i]?).getD ⟨false,vA und,aval f⟩
 have hrn : ∀ (j : Nat) (r : Res),rs[j]? = some r → rn j = r:=fun j r hj=>by simp only [rn,hj,Option.getD_some]
 have hget : ∀ (j : Nat) (o : Oper),ops[j]? = some o → ∃ r,rs[j]? = some r ∧ rn j = r:=fun j o ho=>by
  have hlt : j < rs.length:=by rw [e1];simpa using (Array.getElem?_eq_some_iff.1 ho).1
  exact ⟨rs[j],List.getElem?_eq_getElem hlt,hrn _ _ (List.getElem?_eq_getElem hlt)⟩
 have hdep : ∀ i j,(nthM (masks .any ops.toList []) i).testBit j = true → Dep .any ops i j:=
  masks_ok ops.toList [] (fun j=>by simp) (fun i j h=>by simp [nthM] at h)
 have hpair : ∀ i j oi oj,i ≠ j → ops[i]? = some oi → ops[j]? = some oj → (Dep .any ops i j ∨ Clean (rn i) (rn j)) ∧ (j ≤ i ∨ Dep .any ops j i ∨ Ids (rn i) (rn j)):=by
  intro i j oi oj hne hi hj
  obtain ⟨r,hr,er⟩:=hget i oi hi
  obtain ⟨s,hs',es⟩:=hget j oj hj
  have p1:=allIx_get c2 (j:=i) hr
  have p2:=allIx_get p1 (j:=j) hs'
  simp only [Nat.zero_add] at p2
  rw [er,es]
  rcases orB_ok p2 with h|h
  ·exact absurd (nbt.1 h) hne
  obtain ⟨h3,h4⟩:=andB_ok h
  refine ⟨?_,?_⟩
  ·rcases orB_ok h3 with h|h
   ·exact .inl (hdep _ _ h)
   ·exact .inr (cleanB_ok h)
  ·rcases orB_ok h4 with h|h
   ·exact .inl (Nat.le_of_ble_eq_true h)
   rcases orB_ok h with h|h
   ·exact .inr (.inl (hdep _ _ h))
   ·exact .inr (.inr (idsB_ok h))
 have hB':=hB
 simp only [Region.lexB,Bool.and_eq_true] at hB'
 have hcl : Closed .any ops (Array.replicate ops.size false):=by
  intro i o ho hl
  have hlt:=(Array.getElem?_eq_some_iff.1 ho).1
  simp [hlt] at hl
 have hinv : Inv ops rn (Array.replicate ops.size false) f (mget m):=by
  intro j o ho _ k hk
  obtain ⟨r,hr,er⟩:=hget j o ho
  rw [er] at hk
  have p1:=allL_get (allIx_get c1 (j:=j) hr) k hk
  cases hm : menL k f with
  | true=>rw [hm] at p1;cases p1
  | false=>rw [hm] at p1;exact ⟨rfl,memB_ok p1⟩
 have hlex:=e5 rn fun j r hj=>by rw [Nat.zero_add];exact hrn j r hj
 simp only [Array.toArray_toList] at hlex e4
 have hany:=aAny_lex (md:=.any) (ops:=ops) (rs:=rn) (fun i j oi oj hlt hi hj=>by
  rcases (hpair i j oi oj (by omega) hi hj).2 with h|h
  ·omega
  ·exact h) ops.toList 0 (Array.replicate ops.size false) f (mget m) (by simp) hcl (by simp) (by simpa using hB'.2) hlex
 rw [Array.length_toList] at hany
 refine wp_region_any hC.mixed ?_
 have hs1 : Sim { w with drawn:=w.drawn + 1 } g (base + L) f (mget m) a:=⟨hs.fr.same (fun _ _=>rfl),hs.df,⟨hs.me.al,hs.me.lt,hs.me.nro,hs.me.inj,fun k b h=>(hs.me.blk k b h).mono' ⟨fun _ h=>h,fun _ _=>rfl,.of fun _ _=>rfl⟩ (Nat.le_refl _) (fun _=>rfl) (fun k _ _ h=>⟨h,rfl,rfl⟩),hs.me.rolt,hs.me.nof,hs.me.fj.step (fun _ _=>rfl) hs.me.fj.nro hs.me.fj.nal⟩⟩
 have:=aAny_ok (P:=P) (base:=base) (fun i o ho=>by
   obtain ⟨r,hr,er⟩:=hget i o ho
   rw [er];exact e4 i o r (by simpa using ho) hr) (fun i j oi oj hne hi hj=>(hpair i j oi oj hne hi hj).1)
  (Q':=fun e a' w'=>∃ ae f' m' g',e = exitOf ae ∧ (fun (e : AE) (f' : List AV) (m' : Mem)=>match e with|.normal=>K f' m'|_=>False) ae f' m' ∧ Sim w' g' (base + L) f' (mget m') a' ∧ Tr g w w' ∧ LeG base g g') _ _ _ _ hcl hinv hany _ g a hs1
  (fun f2 m2 w2 g2 a2 hQ hs2 ht hl=>by
   obtain ⟨rfl,rfl⟩:=hQ
   refine ⟨.normal,fr',m',g2,rfl,hK,⟨?_,hs2.df,hs2.me⟩,?_,hl⟩
   ·refine ⟨by rw [← e3.1];exact hs2.fr.1,fun i c x hc hx=>?_⟩
    have:=e3.2 i
    rw [hc] at this
    have hlt : i < f2.length:=by rw [e3.1];exact (List.getElem?_eq_some_iff.1 hc).1
    rw [List.getElem?_eq_getElem hlt] at this
    exact this.le _ _ _ _ (hs2.fr.2 i _ x (List.getElem?_eq_getElem hlt) hx)
   ·exact ⟨ht.os,ht.tape,ht.output,⟨ht.size.1,Nat.le_trans (Nat.le_succ _) ht.size.2⟩,ht.same,ht.others⟩)
 exact this
open Go Go.RowKit
mutual
def renV (ρ : Nat → Nat) : AV → AV
 | .own t k o n c=>.own t (ρ k) o n c
 | .ptr k o=>.ptr (ρ k) o
 | .rptr t k i o=>.rptr t (ρ k) i o
 | .mp k=>.mp (ρ k)
 | .agg cs=>.agg (renL ρ cs)
 | .tup cs=>.tup (renL ρ cs)
 | .clo f a b=>.clo f (renL ρ a) (renL ρ b)
 | v=>v
def renL (ρ : Nat → Nat) : List AV → List AV
 | []=>[]
 | c :: r=>renV ρ c :: renL ρ r
end
def renB (ρ : Nat → Nat) : Blk → Blk
 | .box cs=>.box (renL ρ cs)
 | .row t l=>.row t l
 | .mp ks cs=>.mp ks (renL ρ cs)
 | .pm ik F n=>.pm ik F n
mutual
def namB (p : Nat → Bool) : AV → Bool
 | .own _ k _ _ _=>p k
 | .ptr k _=>p k
 | .rptr _ k _ _=>p k
 | .mp k=>p k
 | .agg cs=>namL p cs
 | .tup cs=>namL p cs
 | .clo _ a b=>match namL p a with|true=>namL p b|false=>false
 | _=>true
def namL (p : Nat → Bool) : List AV → Bool
 | []=>true
 | c :: r=>match namB p c with|true=>namL p r|false=>false
end
theorem namL_get {p : Nat → Bool} {cs : List AV} (h : namL p cs = true) {i : Nat} {c : AV} (hc : cs[i]? = some c) : namB p c = true:=by
 induction cs generalizing i with
 | nil=>simp at hc
 | cons a r ih =>
  simp only [namL] at h
  cases ha : namB p a with
  | false=>rw [ha] at h;cases h
  | true =>
   rw [ha] at h
   cases i with
   | zero=>simp at hc;subst hc;exact ha
   | succ i=>simp at hc;exact ih h hc
theorem renL_length (ρ : Nat → Nat) : ∀ cs : List AV,(renL ρ cs).length = cs.length
 | []=>rfl
 | c :: r=>by simp only [renL,List.length_cons];rw [renL_length ρ r]
theorem renL_get {ρ : Nat → Nat} {cs : List AV} {i : Nat} {c : AV} (h : (renL ρ cs)[i]? = some c) : ∃ c',cs[i]? = some c' ∧ c = renV ρ c':=by
 induction cs generalizing i with
 | nil=>simp [renL] at h
 | cons a r ih =>
  simp only [renL] at h
  cases i with
  | zero=>simp at h;exact ⟨a,by simp,h.symm⟩
  | succ i=>simp at h;simpa using ih h
mutual
theorem renV_inv {ρ σ : Nat → Nat} {p : Nat → Bool} (hp : ∀ k,p k = true → σ (ρ k) = k) : ∀ v : AV,namB p v = true → renV σ (renV ρ v) = v
 | .top,_=>rfl
 | .tt,_=>rfl
 | .ff,_=>rfl
 | .emp _,_=>rfl
 | .bl _ _,_=>rfl
 | .lit _,_=>rfl
 | .agg cs,h=>by simp only [renV];rw [renL_inv hp cs (by simpa [namB] using h)]
 | .tup cs,h=>by simp only [renV];rw [renL_inv hp cs (by simpa [namB] using h)]
 | .vec _ _,_=>rfl
 | .own t k o n c,h=>by simp only [renV];rw [hp k (by simpa [namB] using h)]
 | .ptr k o,h=>by simp only [renV];rw [hp k (by simpa [namB] using h)]
 | .rptr t k i o,h=>by simp only [renV];rw [hp k (by simpa [namB] using h)]
 | .mp k,h=>by simp only [renV];rw [hp k (by simpa [namB] using h)]
 | .vptr _ _ _ _,_=>rfl
 | .fec _ _ _,_=>rfl
 | .fptr _ _ _ _,_=>rfl
 | .sl,_=>rfl
 | .clo f a b,h=>by
  simp only [namB] at h
  cases ha : namL p a with
  | false=>rw [ha] at h;cases h
  | true=>rw [ha] at h;simp only [renV];rw [renL_inv hp a ha,renL_inv hp b h]
theorem renL_inv {ρ σ : Nat → Nat} {p : Nat → Bool} (hp : ∀ k,p k = true → σ (ρ k) = k) : ∀ cs : List AV,namL p cs = true → renL σ (renL ρ cs) = cs
 | [],_=>rfl
 | c :: r,h=>by
  simp only [namL] at h
  cases hc : namB p c with
  | false=>rw [hc] at h;cases h
  | true=>rw [hc] at h;simp only [renL];rw [renV_inv hp c hc,renL_inv hp r h]
end
mutual
theorem namV_ren {ρ : Nat → Nat} {p q : Nat → Bool} (hp : ∀ k,p k = true → q (ρ k) = true) : ∀ v : AV,namB p v = true → namB q (renV ρ v) = true
 | .top,_=>rfl
 | .tt,_=>rfl
 | .ff,_=>rfl
 | .emp _,_=>rfl
 | .bl _ _,_=>rfl
 | .lit _,_=>rfl
 | .agg cs,h=>by simp only [renV,namB];exact namL_ren hp cs (by simpa [namB] using h)
 | .tup cs,h=>by simp only [renV,namB];exact namL_ren hp cs (by simpa [namB] using h)
 | .vec _ _,_=>rfl
 | .own t k o n c,h=>by simp only [renV,namB];exact hp k (by simpa [namB] using h)
 | .ptr k o,h=>by simp only [renV,namB];exact hp k (by simpa [namB] using h)
 | .rptr t k i o,h=>by simp only [renV,namB];exact hp k (by simpa [namB] using h)
 | .mp k,h=>by simp only [renV,namB];exact hp k (by simpa [namB] using h)
 | .vptr _ _ _ _,_=>rfl
 | .fec _ _ _,_=>rfl
 | .fptr _ _ _ _,_=>rfl
 | .sl,_=>rfl
 | .clo f a b,h=>by
  simp only [namB] at h
  cases ha : namL p a with
  | false=>rw [ha] at h;cases h
  | true=>rw [ha] at h;simp only [renV,namB];rw [namL_ren hp a ha];exact namL_ren hp b h
theorem namL_ren {ρ : Nat → Nat} {p q : Nat → Bool} (hp : ∀ k,p k = true → q (ρ k) = true) : ∀ cs : List AV,namL p cs = true → namL q (renL ρ cs) = true
 | [],_=>rfl
 | c :: r,h=>by
  simp only [namL] at h
  cases hc : namB p c with
  | false=>rw [hc] at h;cases h
  | true=>rw [hc] at h;simp only [renL,namL];rw [namV_ren hp c hc];exact namL_ren hp r h
end
mutual
theorem nofV_ren {ρ : Nat → Nat} : ∀ v : AV,nofV (renV ρ v) = nofV v
 | .top=>rfl
 | .tt=>rfl
 | .ff=>rfl
 | .emp _=>rfl
 | .bl _ _=>rfl
 | .lit _=>rfl
 | .agg cs=>by simp only [renV,nofV];exact nofL_ren cs
 | .tup cs=>by simp only [renV,nofV];exact nofL_ren cs
 | .vec _ _=>rfl
 | .own t k o n c=>rfl
 | .ptr k o=>rfl
 | .rptr t k i o=>rfl
 | .mp k=>rfl
 | .vptr _ _ _ _=>rfl
 | .fec _ _ _=>rfl
 | .fptr _ _ _ _=>rfl
 | .sl=>rfl
 | .clo f a b=>by simp only [renV,nofV];rw [nofL_ren a,nofL_ren b]
theorem nofL_ren {ρ : Nat → Nat} : ∀ cs : List AV,nofL (renL ρ cs) = nofL cs
 | []=>rfl
 | c :: r=>by simp only [renL,nofL];rw [nofV_ren c,nofL_ren r]
end
def nofB : Blk → Bool
 | .box cs=>nofL cs
 | .row t _=>match fB t with|true=>false|false=>true
 | .mp _ cs=>nofL cs
 | .pm _ _ _=>true
def nofM : Mem → Bool
 | []=>true
 | (_,b) :: r=>match nofB b with|true=>nofM r|false=>false
theorem nofM_get : ∀ {m : Mem},nofM m = true → ∀ {k b},mget m k = some b → nofB b = true
 | [],_,k,b,hb=>by simp [mget] at hb
 | (i,c) :: r,h,k,b,hb=>by
  simp only [nofM] at h
  cases hc : nofB c with
  | false=>rw [hc] at h;cases h
  | true =>
   rw [hc] at h
   simp only [mget] at hb
   cases hk : Nat.beq i k with
   | true=>rw [hk] at hb;cases hb;exact hc
   | false=>rw [hk] at hb;exact nofM_get h hb
theorem nofB_ren {ρ : Nat → Nat} (b : Blk) : nofB (renB ρ b) = nofB b:=by
 cases b with
 | box cs=>exact nofL_ren cs
 | row _ _=>rfl
 | mp _ cs=>exact nofL_ren cs
 | pm _ _ _=>rfl
theorem nam_cells {t : Ty} {e : El t} {c : AV} (h : c ∈ cells t e) (p : Nat → Bool) : namB p c = true:=by
 cases t
 case boxM=>obtain ⟨f,e⟩:=e;cases f<;>simp [cells,bagM] at h<;>(repeat' (first|(subst h;rfl)|(rcases h with h|h)))
 all_goals simp [cells] at h<;>(repeat' (first|(subst h;rfl)|(rcases h with h|h)))
theorem ren_cells {t : Ty} {e : El t} {c : AV} (h : c ∈ cells t e) (ρ : Nat → Nat) : renV ρ c = c:=by
 cases t
 case boxM=>obtain ⟨f,e⟩:=e;cases f<;>simp [cells,bagM] at h<;>(repeat' (first|(subst h;rfl)|(rcases h with h|h)))
 all_goals simp [cells] at h<;>(repeat' (first|(subst h;rfl)|(rcases h with h|h)))
theorem flat_mem {t : Ty} {l : List (El t)} {i : Nat} {c : AV} (h : (flat t l)[i]? = some c) : ∃ e,c ∈ cells t e:=by
 have hm:=List.mem_of_getElem? h
 simp only [flat,List.mem_flatMap] at hm
 obtain ⟨e,_,hc⟩:=hm
 exact ⟨e,hc⟩
theorem Rep.renF {w w' : World} {g g' : G} {lim lim' : Nat} {v : AV} {x : Value} {ρ : Nat → Nat} {p : Nat → Bool} (hk : KeepsW w w' g g')
  (hp : ∀ k,p k = true → (ρ k < lim' ∨ ρ k % 2 = 1) ∧ (g'.al (ρ k) → g.al k ∧ g'.be (ρ k) = g.be k ∧ g'.sz (ρ k) = g.sz k)) (h : Rep w g lim v x) (hn : namB p v = true) (hF : nofV v = true ∨ KeepsF w w' g g') : Rep w' g' lim' (renV ρ v) x:=by
 induction h with
 | top x=>exact .top x
 | tt=>exact .tt
 | ff=>exact .ff
 | emp t a=>exact .emp t a
 | bl p q b h1 h2=>exact .bl p q b h1 h2
 | lit v=>exact .lit v
 | agg cs xs hl h ih=>exact .agg _ xs (by rw [renL_length];exact hl) fun i c x hc hx=>by obtain ⟨c',h1,rfl⟩:=renL_get hc;exact ih i c' x h1 hx (namL_get (by simpa [namB] using hn) h1) (hF.imp (fun h=>nofL_get h h1) fun h=>h)
 | tup cs xs hl h ih=>exact .tup _ xs (by rw [renL_length];exact hl) fun i c x hc hx=>by obtain ⟨c',h1,rfl⟩:=renL_get hc;exact ih i c' x h1 hx (namL_get (by simpa [namB] using hn) h1) (hF.imp (fun h=>nofL_get h h1) fun h=>h)
 | vecE t a cap=>exact .vecE t a cap
 | vec t l b o cap xs hc hr hw h ih =>
  refine .vec t l b o cap xs hc (hk.ro b hr) (fun i c hi=>by rw [World.cell?_of_block (w:=w) (hk.same b hr)];exact hw i c hi) fun i c hi=>?_
  obtain ⟨e,he⟩:=flat_mem hi
  have:=ih i c hi (nam_cells he p) (hF.imp (fun h=>nof_flat (nof_fB h) hi) fun h=>h)
  rwa [ren_cells he] at this
 | own t k off len b cap c hkl hc hcc h =>
  obtain ⟨h1,h2⟩:=hp k (by simpa [namB] using hn)
  exact .own t _ off len b cap c h1 hc hcc fun ha=>by obtain ⟨e1,e2,e3⟩:=h2 ha;rw [e2,e3];exact h e1
 | ownE t k off c ad hkl hcc=>exact .ownE t _ off c ad (hp k (by simpa [namB] using hn)).1 hcc
 | ptr k off b hkl h =>
  obtain ⟨h1,h2⟩:=hp k (by simpa [namB] using hn)
  exact .ptr _ off b h1 fun ha=>by obtain ⟨e1,e2,e3⟩:=h2 ha;rw [e2];exact h e1
 | rptr t k i off b hkl h =>
  obtain ⟨h1,h2⟩:=hp k (by simpa [namB] using hn)
  exact .rptr t _ i off b h1 fun ha=>by obtain ⟨e1,e2,e3⟩:=h2 ha;rw [e2];exact h e1
 | mp k b hkl h =>
  obtain ⟨h1,h2⟩:=hp k (by simpa [namB] using hn)
  exact .mp _ b h1 fun ha=>by obtain ⟨e1,e2,e3⟩:=h2 ha;rw [e2];exact h e1
 | vptr t l i off b o xs hr hw h ih =>
  rcases hF with hF|hF
  ·cases hF
  have hs : w'.heap[b]? = w.heap[b]?:=hr.elim (hk.same b) fun h=>(hF.fr b h).2
  refine .vptr t l i off b o xs (hr.imp (hk.ro b) fun h=>(hF.fr b h).1) (fun i c hi=>by rw [World.cell?_of_block (w:=w) hs];exact hw i c hi) fun i c hi=>?_
  obtain ⟨e,he⟩:=flat_mem hi
  have:=ih i c hi (nam_cells he p) (.inr hF)
  rwa [ren_cells he] at this
 | clo fn fs cs fs' cs' hl h hl' h' ih ih' =>
  have hab : namL p fs = true ∧ namL p cs = true:=by
   simp only [namB] at hn
   cases ha : namL p fs with
   | false=>rw [ha] at hn;cases hn
   | true=>rw [ha] at hn;exact ⟨rfl,hn⟩
  have hF2 : (nofL fs = true ∧ nofL cs = true) ∨ KeepsF w w' g g':=hF.imp (fun h=>by
   simp only [nofV] at h
   cases hf : nofL fs with
   | false=>rw [hf] at h;cases h
   | true=>rw [hf] at h;exact ⟨rfl,h⟩) fun h=>h
  exact .clo fn _ _ fs' cs' (by rw [renL_length];exact hl) (fun i c x hc hx=>by obtain ⟨c',h1,rfl⟩:=renL_get hc;exact ih i c' x h1 hx (namL_get hab.1 h1) (hF2.imp (fun h=>nofL_get h.1 h1) fun h=>h))
   (by rw [renL_length];exact hl') (fun i c x hc hx=>by obtain ⟨c',h1,rfl⟩:=renL_get hc;exact ih' i c' x h1 hx (namL_get hab.2 h1) (hF2.imp (fun h=>nofL_get h.2 h1) fun h=>h))
 | fecE j t a cap=>exact .fecE j t a cap
 | fec t l b o cap xs hc hr hg hw h ih =>
  rcases hF with hF|hF
  ·cases hF
  refine .fec t l b o cap xs hc (hF.fr b hr).1 ((hF.fn b hr).trans hg) (fun i c hi=>by rw [World.cell?_of_block (w:=w) (hF.fr b hr).2];exact hw i c hi) fun i c hi=>?_
  obtain ⟨e,he⟩:=flat_mem hi
  have:=ih i c hi (nam_cells he p) (.inr hF)
  rwa [ren_cells he] at this
 | jec t l b o cap n hc hr hn9 =>
  rcases hF with hF|hF
  ·cases hF
  exact .jec t l b o cap n hc (hF.jd b n hr) hn9
 | fptr t m i off b o n hr hn9 =>
  rcases hF with hF|hF
  ·cases hF
  exact .fptr t m i off b o n (hF.jd b n hr) hn9
 | sl a n c=>exact .sl a n c
theorem Rep.ren {w w' : World} {g g' : G} {lim lim' : Nat} {v : AV} {x : Value} {ρ : Nat → Nat} {p : Nat → Bool} (hk : Keeps w w' g g')
  (hp : ∀ k,p k = true → (ρ k < lim' ∨ ρ k % 2 = 1) ∧ (g'.al (ρ k) → g.al k ∧ g'.be (ρ k) = g.be k ∧ g'.sz (ρ k) = g.sz k)) (h : Rep w g lim v x) (hn : namB p v = true) : Rep w' g' lim' (renV ρ v) x:=
 h.renF hk.w hp hn (.inr hk.f)
theorem BlkRep.renF {w w' : World} {g g' : G} {lim lim' b n : Nat} {bl : Blk} {ρ : Nat → Nat} {p : Nat → Bool} (hk : KeepsW w w' g g')
  (hp : ∀ k,p k = true → (ρ k < lim' ∨ ρ k % 2 = 1) ∧ (g'.al (ρ k) → g.al k ∧ g'.be (ρ k) = g.be k ∧ g'.sz (ρ k) = g.sz k)) (h : BlkRep w g lim b n bl) (hb : 0 < n → w'.heap[b]? = w.heap[b]?)
  (hn : ∀ cs,bl = .box cs → namL p cs = true) (hn2 : ∀ ks cs,bl = .mp ks cs → namL p cs = true) (hF : nofB bl = true ∨ KeepsF w w' g g') : BlkRep w' g' lim' b n (renB ρ bl):=by
 cases bl with
 | box cs =>
  obtain ⟨h0,c,ty,h1,h2,h3,h4⟩:=h
  exact ⟨h0,c,ty,(hb h0).trans h1,h2,by rw [renL_length];exact h3,fun i a x ha hx=>by
   obtain ⟨a',h5,rfl⟩:=renL_get ha
   exact (h4 i a' x h5 hx).renF hk hp (namL_get (hn cs rfl) h5) (hF.imp (fun h=>nofL_get h h5) fun h=>h)⟩
 | mp ks cs =>
  obtain ⟨h0,hl,c,ty,h1,h2,h3,h4⟩:=h
  exact ⟨h0,by rw [renL_length];exact hl,c,ty,(hb h0).trans h1,by rw [renL_length];exact h2,h3,fun i a x ha hx=>by
   obtain ⟨a',h5,rfl⟩:=renL_get ha
   exact (h4 i a' x h5 hx).renF hk hp (namL_get (hn2 ks cs rfl) h5) (hF.imp (fun h=>nofL_get h h5) fun h=>h)⟩
 | pm ik F m =>
  obtain ⟨h0,c,ty,h1,h2⟩:=h
  exact ⟨h0,c,ty,(hb h0).trans h1,h2⟩
 | row t l =>
  rcases h with h0|⟨h0,c,ty,h1,h2,h3,h4⟩
  ·exact .inl h0
  refine .inr ⟨h0,c,ty,(hb h0).trans h1,h2,h3,fun i a x ha hx=>?_⟩
  obtain ⟨e,he⟩:=flat_mem ha
  have:=(h4 i a x ha hx).renF hk hp (nam_cells he p) (hF.imp (fun h=>nof_flat (nof_fB h) ha) fun h=>h)
  rwa [ren_cells he] at this
theorem BlkRep.ren {w w' : World} {g g' : G} {lim lim' b n : Nat} {bl : Blk} {ρ : Nat → Nat} {p : Nat → Bool} (hk : Keeps w w' g g')
 (hp : ∀ k,p k = true → (ρ k < lim' ∨ ρ k % 2 = 1) ∧ (g'.al (ρ k) → g.al k ∧ g'.be (ρ k) = g.be k ∧ g'.sz (ρ k) = g.sz k)) (h : BlkRep w g lim b n bl) (hb : 0 < n → w'.heap[b]? = w.heap[b]?)
 (hn : ∀ cs,bl = .box cs → namL p cs = true) (hn2 : ∀ ks cs,bl = .mp ks cs → namL p cs = true) : BlkRep w' g' lim' b n (renB ρ bl):=h.renF hk.w hp hb hn hn2 (.inr hk.f)
open Go Go.RowKit
def Ev1 (P : Program) (fid : FuncId) (args : List AV) (m0 : Mem) (v : AV) (m1 : Mem) : Prop:=
 ∀ (w : World) (g : G) (vs : Array Value),MSim w g L (mget m0) → RepL w g L args vs →
  Calls P fid vs w fun e w'=>∃ x g',e = .returned x ∧ Rep w' g' L v x ∧ MSim w' g' L (mget m1) ∧ Tr g w w' ∧ LeG L g g'
theorem Ev1.of_ev {P : Program} {C : Cfg2} (hC : Cfg2Ok P C) {fid : FuncId} {fn : Func} {c : Code} (hf : P.funcs[fid]? = some fn) (hb : fn.body = some c) {nt : Nat} {args : List AV} {m0 m1 : Mem} {v : AV}
  (hn : fn.ntmps - args.length = nt) (h : ev P C L c (bodyK P L fn.results.toList fun v' m'=>Le v' v ∧ m' = m1) (args ++ undefs nt) m0) : Ev1 P fid args m0 v m1:=by
 intro w g vs hm ha
 refine (calls_of_ev hC hf hb hn h hm ha).mono fun e w' ⟨v',x,g',m',e1,e2,e3,e4,e5,e6,e7⟩=>?_
 subst e7
 exact ⟨x,g',e1,e6 _ _ _ _ e2,e3,e4,e5⟩
def asc : List (Nat × Nat) → Nat → Nat
 | [],_=>0
 | (i,a) :: r,k=>match Nat.beq i k with|true=>a|false=>asc r k
def asb : List (Nat × Nat) → Nat → Option Nat
 | [],_=>none
 | (i,a) :: r,k=>match Nat.beq a k with|true=>some i|false=>asb r k
def hasD : List (Nat × Nat) → Nat → Bool
 | [],_=>false
 | (i,_) :: r,k=>match Nat.beq i k with|true=>true|false=>hasD r k
def hasR : List (Nat × Nat) → Nat → Bool
 | [],_=>false
 | (_,a) :: r,k=>match Nat.beq a k with|true=>true|false=>hasR r k
def injB : List (Nat × Nat) → Bool
 | []=>true
 | (i,a) :: r=>match hasD r i with|true=>false|false=>match hasR r a with|true=>false|false=>injB r
def hasK : Mem → Nat → Bool
 | [],_=>false
 | (i,_) :: r,k=>match Nat.beq i k with|true=>true|false=>hasK r k
theorem hasK_some {m : Mem} {k : Nat} : hasK m k = (mget m k).isSome:=by
 induction m with
 | nil=>rfl
 | cons p r ih =>
  obtain ⟨i,b⟩:=p
  simp only [hasK,mget]
  cases Nat.beq i k with
  | true=>rfl
  | false=>exact ih
theorem hasR_asc {l : List (Nat × Nat)} {k : Nat} (h : hasD l k = true) : hasR l (asc l k) = true:=by
 induction l with
 | nil=>cases h
 | cons p r ih =>
  obtain ⟨i,a⟩:=p
  simp only [hasD] at h
  simp only [asc]
  cases hi : Nat.beq i k with
  | true=>simp only [hasR,Nat.beq_refl]
  | false =>
   rw [hi] at h
   simp only [hasR]
   cases Nat.beq a (asc r k) with
   | true=>rfl
   | false=>exact ih h
theorem asb_asc {l : List (Nat × Nat)} (hi : injB l = true) {k : Nat} (h : hasD l k = true) : asb l (asc l k) = some k:=by
 induction l with
 | nil=>cases h
 | cons p r ih =>
  obtain ⟨i,a⟩:=p
  simp only [injB] at hi
  split at hi
  ·cases hi
  split at hi
  ·cases hi
  rename_i h1 h2
  simp only [hasD] at h
  simp only [asc,asb]
  cases hik : Nat.beq i k with
  | true=>simp only [Nat.beq_refl];rw [nbt.1 hik]
  | false =>
   rw [hik] at h
   simp only
   cases ha : Nat.beq a (asc r k) with
   | true=>have:=hasR_asc h;rw [← nbt.1 ha,h2] at this;cases this
   | false=>exact ih hi h
theorem asb_some {l : List (Nat × Nat)} {k j : Nat} (hi : injB l = true) (h : asb l k = some j) : hasD l j = true ∧ asc l j = k:=by
 induction l with
 | nil=>cases h
 | cons p r ih =>
  obtain ⟨i,a⟩:=p
  simp only [injB] at hi
  split at hi
  ·cases hi
  split at hi
  ·cases hi
  rename_i _ h1 _ h2
  simp only [asb] at h
  cases ha : Nat.beq a k with
  | true =>
   rw [ha] at h;cases h
   exact ⟨by simp [hasD,Nat.beq_refl],by simp [asc,Nat.beq_refl,nbt.1 ha]⟩
  | false =>
   rw [ha] at h
   obtain ⟨e1,e2⟩:=ih hi h
   have hij : Nat.beq i j = false:=by
    cases hb : Nat.beq i j with
    | false=>rfl
    | true=>rw [nbt.1 hb] at h1;rw [e1] at h1;cases h1
   exact ⟨by simp [hasD,hij,e1],by simp [asc,hij,e2]⟩
def memOk (p q : Nat → Bool) : Mem → Bool
 | []=>true
 | (k,b) :: r=>match q k with
  | false=>false
  | true=>match b with
   | .box cs=>match namL p cs with|true=>memOk p q r|false=>false
   | .row _ _=>memOk p q r
   | .mp _ cs=>match namL p cs with|true=>memOk p q r|false=>false
   | .pm _ _ _=>memOk p q r
theorem memOk_get {p q : Nat → Bool} : ∀ {m : Mem},memOk p q m = true → ∀ {k b},mget m k = some b → q k = true ∧ (∀ cs,b = .box cs → namL p cs = true) ∧ ∀ ks cs,b = .mp ks cs → namL p cs = true
 | [],_,k,b,h=>by simp [mget] at h
 | (i,c) :: r,h,k,b,hb=>by
  simp only [memOk] at h
  split at h
  ·cases h
  rename_i hq
  simp only [mget] at hb
  cases c with
  | box cs =>
   simp only at h
   split at h
   ·rename_i hc
    split at hb
    ·rename_i hik;cases hb
     exact ⟨by rw [← nbt.1 hik];exact hq,(fun cs' e=>by cases e;exact hc),fun _ _ e=>by cases e⟩
    ·exact memOk_get h hb
   ·cases h
  | row t l =>
   simp only at h
   split at hb
   ·rename_i hik;cases hb
    exact ⟨by rw [← nbt.1 hik];exact hq,(fun cs' e=>by cases e),fun _ _ e=>by cases e⟩
   ·exact memOk_get h hb
  | mp ks cs =>
   simp only at h
   split at h
   ·rename_i hc
    split at hb
    ·rename_i hik;cases hb
     exact ⟨by rw [← nbt.1 hik];exact hq,(fun _ e=>by cases e),fun _ _ e=>by cases e;exact hc⟩
    ·exact memOk_get h hb
   ·cases h
  | pm ik F n =>
   simp only at h
   split at hb
   ·rename_i hik;cases hb
    exact ⟨by rw [← nbt.1 hik];exact hq,(fun cs' e=>by cases e),fun _ _ e=>by cases e⟩
   ·exact memOk_get h hb
def rdR (ρ : Nat → Nat) : Mem → List (Nat × Blk)
 | []=>[]
 | (k,b) :: r=>(ρ k,renB ρ b) :: rdR ρ r
def dlR (ρ : Nat → Nat) : Mem → List (Nat × Option Blk)
 | []=>[]
 | (k,_) :: r=>(ρ k,none) :: dlR ρ r
def ptR (ρ : Nat → Nat) : Mem → List (Nat × Option Blk)
 | []=>[]
 | (k,b) :: r=>(ρ k,some (renB ρ b)) :: ptR ρ r
def catU : List (Nat × Option Blk) → List (Nat × Option Blk) → List (Nat × Option Blk)
 | [],b=>b
 | p :: r,b=>p :: catU r b
def frR (ρ : Nat → Nat) (m0 : Mem) : Mem → List Nat
 | []=>[]
 | (k,_) :: r=>match hasK m0 k with|true=>frR ρ m0 r|false=>ρ k :: frR ρ m0 r
def newB (base : Nat) (ρ : Nat → Nat) (m0 : Mem) : Mem → Bool
 | []=>true
 | (k,_) :: r=>match hasK m0 k with
  | true=>newB base ρ m0 r
  | false=>match Nat.ble base (ρ k) with
   | true=>match Nat.blt (ρ k) (base + L) with
    | true=>newB base ρ m0 r
    | false=>false
   | false=>false
def distK : Mem → Bool
 | []=>true
 | (k,_) :: r=>match hasK r k with|true=>false|false=>distK r
def liftB (base : Nat) (l : List (Nat × Nat)) (args : List AV) (m0 : Mem) (v : AV) (m1 : Mem) : Bool:=
 match injB l with
 | false=>false
 | true=>match memOk (hasK m0) (fun k=>match hasD l k with|true=>Nat.blt k L|false=>false) m0 with
  | false=>false
  | true=>match memOk (hasK m1) (hasD l) m1 with
   | false=>false
   | true=>match namL (hasK m0) args with
    | false=>false
    | true=>match namB (hasK m1) v with
     | false=>false
     | true=>match distK m1 with
      | false=>false
      | true=>match nofL args with
       | false=>false
       | true=>match nofM m0 with
        | false=>false
        | true=>newB base (asc l) m0 m1
theorem catU_eq (a b : List (Nat × Option Blk)) : catU a b = a ++ b:=by
 induction a with
 | nil=>rfl
 | cons p r ih=>simp [catU,ih]
theorem putsM_app (a b : List (Nat × Option Blk)) (m : Nat → Option Blk) : putsM (a ++ b) m = putsM b (putsM a m):=by
 induction a generalizing m with
 | nil=>rfl
 | cons p r ih=>obtain ⟨k,x⟩:=p;simp only [List.cons_append,putsM];exact ih _
theorem dlR_get {l : List (Nat × Nat)} {m0 : Mem} (hd : ∀ k,hasK m0 k = true → hasD l k = true) (hi : injB l = true) : ∀ (m : Nat → Option Blk) (k : Nat),
  putsM (dlR (asc l) m0) m k = (match asb l k with|some j=>(match hasK m0 j with|true=>none|false=>m k)|none=>m k):=by
 induction m0 with
 | nil=>intro m k;simp only [dlR,putsM,hasK];split<;>rfl
 | cons p r ih =>
  obtain ⟨i,b⟩:=p
  intro m k
  have hdi : hasD l i = true:=hd i (by simp [hasK,Nat.beq_refl])
  simp only [dlR,putsM]
  rw [ih (fun k hk=>hd k (by simp only [hasK];split<;>first|rfl|exact hk))]
  cases hb : asb l k with
  | none =>
   simp only
   have : asc l i ≠ k:=fun e=>by rw [← e,asb_asc hi hdi] at hb;cases hb
   exact put_ne _ _ this
  | some j =>
   simp only [hasK]
   obtain ⟨q1,q2⟩:=asb_some hi hb
   cases hij : Nat.beq i j with
   | true =>
    have:=nbt.1 hij
    subst this
    rw [q2]
    cases hasK r i with
    | true=>rfl
    | false=>simp [put]
   | false =>
    have : asc l i ≠ k:=fun e=>by rw [← e,asb_asc hi hdi] at hb;cases hb;exact nbf.1 hij rfl
    rw [put_ne _ _ this]
theorem ptR_get {l : List (Nat × Nat)} {m1 : Mem} (hd : ∀ k,hasK m1 k = true → hasD l k = true) (hi : injB l = true) (hk : distK m1 = true) : ∀ (m : Nat → Option Blk) (k : Nat),
  putsM (ptR (asc l) m1) m k = (match asb l k with|some j=>(match mget m1 j with|some b=>some (renB (asc l) b)|none=>m k)|none=>m k):=by
 induction m1 with
 | nil=>intro m k;simp only [ptR,putsM,mget];split<;>rfl
 | cons p r ih =>
  obtain ⟨i,b⟩:=p
  intro m k
  simp only [distK] at hk
  split at hk
  ·cases hk
  rename_i hri
  have hdi : hasD l i = true:=hd i (by simp [hasK,Nat.beq_refl])
  simp only [ptR,putsM]
  rw [ih (fun k hk=>hd k (by simp only [hasK];split<;>first|rfl|exact hk)) hk]
  cases hb : asb l k with
  | none =>
   simp only
   have : asc l i ≠ k:=fun e=>by rw [← e,asb_asc hi hdi] at hb;cases hb
   exact put_ne _ _ this
  | some j =>
   simp only [mget]
   obtain ⟨q1,q2⟩:=asb_some hi hb
   cases hij : Nat.beq i j with
   | true =>
    have:=nbt.1 hij
    subst this
    rw [hasK_some] at hri
    cases hm : mget r i with
    | some _=>rw [hm] at hri;cases hri
    | none=>simp only;rw [q2];simp [put]
   | false =>
    have : asc l i ≠ k:=fun e=>by rw [← e,asb_asc hi hdi] at hb;cases hb;exact nbf.1 hij rfl
    rw [put_ne _ _ this]
theorem frR_mem {ρ : Nat → Nat} {m0 m1 : Mem} {k : Nat} : k ∈ frR ρ m0 m1 ↔ ∃ j,hasK m1 j = true ∧ hasK m0 j = false ∧ ρ j = k:=by
 induction m1 with
 | nil=>simp [frR,hasK]
 | cons p r ih =>
  obtain ⟨i,b⟩:=p
  simp only [frR]
  cases h0 : hasK m0 i with
  | true =>
   simp only
   rw [ih]
   constructor
   ·rintro ⟨j,h1,h2,h3⟩;exact ⟨j,by simp only [hasK];split<;>first|rfl|exact h1,h2,h3⟩
   ·rintro ⟨j,h1,h2,h3⟩
    simp only [hasK] at h1
    split at h1
    ·rename_i hij;rw [← nbt.1 hij,h0] at h2;cases h2
    ·exact ⟨j,h1,h2,h3⟩
  | false =>
   simp only [List.mem_cons]
   rw [ih]
   constructor
   ·rintro (rfl|⟨j,h1,h2,h3⟩)
    ·exact ⟨i,by simp [hasK,Nat.beq_refl],h0,rfl⟩
    ·exact ⟨j,by simp only [hasK];split<;>first|rfl|exact h1,h2,h3⟩
   ·rintro ⟨j,h1,h2,h3⟩
    simp only [hasK] at h1
    split at h1
    ·rename_i hij;rw [nbt.1 hij];exact .inl h3.symm
    ·exact .inr ⟨j,h1,h2,h3⟩
theorem newB_ok {base : Nat} {ρ : Nat → Nat} {m0 m1 : Mem} (h : newB base ρ m0 m1 = true) {j : Nat} (h1 : hasK m1 j = true) (h2 : hasK m0 j = false) : base ≤ ρ j ∧ ρ j < base + L:=by
 induction m1 with
 | nil=>cases h1
 | cons p r ih =>
  obtain ⟨i,b⟩:=p
  simp only [newB] at h
  simp only [hasK] at h1
  split at h
  ·rename_i h0
   split at h1
   ·rename_i hij;rw [← nbt.1 hij,h0] at h2;cases h2
   ·exact ih h h1
  ·split at h
   ·rename_i hb1
    split at h
    ·rename_i hb2
     split at h1
     ·rename_i hij;rw [← nbt.1 hij];exact ⟨Nat.le_of_ble_eq_true hb1,Nat.le_of_ble_eq_true hb2⟩
     ·exact ih h h1
    ·cases h
   ·cases h
mutual
theorem men_fgt_of (j k : Nat) : ∀ v : AV,men k v = false → men k (fgt j v) = false
 | .top,_=>rfl
 | .tt,_=>rfl
 | .ff,_=>rfl
 | .emp _,_=>rfl
 | .bl _ _,_=>rfl
 | .lit _,_=>rfl
 | .agg cs,h=>by simp only [fgt,men];exact menL_fgt_of j k cs (by simpa [men] using h)
 | .tup cs,h=>by simp only [fgt,men];exact menL_fgt_of j k cs (by simpa [men] using h)
 | .vec _ _,_=>rfl
 | .own t i o n c,h=>by simp only [fgt];cases Nat.beq i j<;>first|rfl|exact h
 | .ptr i o,h=>by simp only [fgt];cases Nat.beq i j<;>first|rfl|exact h
 | .rptr t i x o,h=>by simp only [fgt];cases Nat.beq i j<;>first|rfl|exact h
 | .mp i,h=>by simp only [fgt];cases Nat.beq i j<;>first|rfl|exact h
 | .vptr _ _ _ _,_=>rfl
 | .fec _ _ _,_=>rfl
 | .fptr _ _ _ _,_=>rfl
 | .sl,_=>rfl
 | .clo f a b,h=>by
  simp only [men] at h
  cases ha : menL k a with
  | true=>rw [ha] at h;cases h
  | false=>rw [ha] at h;simp only [fgt,men];rw [menL_fgt_of j k a ha];exact menL_fgt_of j k b h
theorem menL_fgt_of (j k : Nat) : ∀ cs : List AV,menL k cs = false → menL k (fgtL j cs) = false
 | [],_=>rfl
 | c :: r,h=>by
  simp only [menL] at h
  cases hc : men k c with
  | true=>rw [hc] at h;cases h
  | false=>rw [hc] at h;simp only [fgtL,menL];rw [men_fgt_of j k c hc];exact menL_fgt_of j k r h
end
theorem menB_fgt_of (j k : Nat) {b : Blk} (h : menB k b = false) : menB k (fgtB j b) = false:=by
 cases b with
 | box cs=>exact menL_fgt_of j k cs h
 | row t l=>rfl
 | mp ks cs=>exact menL_fgt_of j k cs h
 | pm _ _ _=>rfl
theorem fgtsF_rep {w : World} {g : G} {lim : Nat} (ks : List Nat) : ∀ {f : List AV} {xs : Array Value},RepL w g lim f xs → RepL w g lim (fgtsF ks f) xs:=by
 induction ks with
 | nil=>intro f xs h;exact h
 | cons j r ih=>intro f xs h;exact ih (h.fgt j)
theorem fgtsF_men (ks : List Nat) : ∀ (f : List AV) (k : Nat),(k ∈ ks ∨ menL k f = false) → menL k (fgtsF ks f) = false:=by
 induction ks with
 | nil=>intro f k h;rcases h with h|h;cases h;exact h
 | cons j r ih =>
  intro f k h
  simp only [fgtsF]
  apply ih
  rcases h with h|h
  ·rcases List.mem_cons.1 h with rfl|h
   ·exact .inr (menL_fgtL _ _)
   ·exact .inl h
  ·exact .inr (menL_fgt_of j k f h)
theorem fgtsM_ok {w : World} {g : G} {lim : Nat} (ks : List Nat) : ∀ {m : Nat → Option Blk},MSim w g lim m → MSim w g lim (fgtsM ks m):=by
 induction ks with
 | nil=>intro m h;exact h
 | cons j r ih=>intro m h;exact ih (h.fgt j)
theorem fgtsM_men (ks : List Nat) : ∀ (m : Nat → Option Blk) (k : Nat),(k ∈ ks ∨ ∀ i b,m i = some b → menB k b = false) → ∀ i b,fgtsM ks m i = some b → menB k b = false:=by
 induction ks with
 | nil=>intro m k h;rcases h with h|h;cases h;exact h
 | cons j r ih =>
  intro m k h
  simp only [fgtsM]
  apply ih
  have hb : ∀ i b,fgtM j m i = some b → ∃ b',m i = some b' ∧ b = fgtB j b':=fun i b hb=>by
   simp only [fgtM,Option.map_eq_some_iff] at hb
   obtain ⟨b',h1,h2⟩:=hb;exact ⟨b',h1,h2.symm⟩
  rcases h with h|h
  ·rcases List.mem_cons.1 h with rfl|h
   ·exact .inr fun i b hb'=>by obtain ⟨b',_,rfl⟩:=hb i b hb';exact menB_fgtB _ b'
   ·exact .inl h
  ·exact .inr fun i b hb'=>by obtain ⟨b',h1,rfl⟩:=hb i b hb';exact menB_fgt_of j k (h i b' h1)
theorem fgtsM_some {ks : List Nat} : ∀ {m : Nat → Option Blk} {k : Nat},(fgtsM ks m k).isSome = (m k).isSome:=by
 induction ks with
 | nil=>intro m k;rfl
 | cons j r ih=>intro m k;simp only [fgtsM];rw [ih];simp [fgtM]
theorem rdR_mem {ρ : Nat → Nat} {m0 : Mem} {m : Nat → Option Blk} (h : ∀ p ∈ rdR ρ m0,m p.1 = some p.2) {j : Nat} {b : Blk} (hb : mget m0 j = some b) : m (ρ j) = some (renB ρ b):=by
 induction m0 with
 | nil=>simp [mget] at hb
 | cons p r ih =>
  obtain ⟨i,c⟩:=p
  simp only [mget] at hb
  split at hb
  ·rename_i hij;cases hb
   rw [← nbt.1 hij]
   exact h (ρ i,renB ρ b) (by simp [rdR])
  ·exact ih (fun p hp=>h p (by simp [rdR,hp])) hb
theorem Ev1.cact {P : Program} {fid : FuncId} {args : List AV} {m0 m1 : Mem} {v : AV} (h : Ev1 P fid args m0 v m1) (base : Nat) (l : List (Nat × Nat)) (hok : liftB base l args m0 v m1 = true) :
  CAct P base fid (renL (asc l) args) ⟨renV (asc l) v,rdR (asc l) m0,catU (dlR (asc l) m0) (ptR (asc l) m1),frR (asc l) m0 m1⟩:=by
 unfold liftB at hok
 split at hok
 ·cases hok
 rename_i hinj
 split at hok
 ·cases hok
 rename_i hm0
 split at hok
 ·cases hok
 rename_i hm1
 split at hok
 ·cases hok
 rename_i hargs
 split at hok
 ·cases hok
 rename_i hv
 split at hok
 ·cases hok
 rename_i hdist
 split at hok
 ·cases hok
 rename_i hnfa
 split at hok
 ·cases hok
 rename_i hnfm
 refine ⟨fun m hrd w g vs hm hr=>?_⟩
 have k0 : ∀ j,hasK m0 j = true → hasD l j = true ∧ j < L:=fun j hj=>by
  rw [hasK_some] at hj
  obtain ⟨b,hb⟩:=Option.isSome_iff_exists.1 hj
  have:=(memOk_get hm0 hb).1
  split at this
  ·rename_i hd;exact ⟨hd,Nat.le_of_ble_eq_true this⟩
  ·cases this
 have k1 : ∀ j,hasK m1 j = true → hasD l j = true:=fun j hj=>by
  rw [hasK_some] at hj
  obtain ⟨b,hb⟩:=Option.isSome_iff_exists.1 hj
  exact (memOk_get hm1 hb).1
 have hal0 : ∀ j,hasK m0 j = true → g.al (asc l j):=fun j hj=>by
  rw [hasK_some] at hj
  obtain ⟨b,hb⟩:=Option.isSome_iff_exists.1 hj
  exact (hm.al _).2 (by rw [rdR_mem hrd hb];rfl)
 have hinj2 : ∀ i j,hasD l i = true → hasD l j = true → asc l i = asc l j → i = j:=fun i j hi hj e=>by
  have h1:=asb_asc hinj hi
  rw [e,asb_asc hinj hj] at h1;cases h1;rfl
 -- the callee's ghost
 let g0 : G:={ ro:=g.ro,no:=fun b=>g.no b ∨ (∃ k,g.al k ∧ 0 < g.sz k ∧ g.be k = b ∧ ∀ j,hasK m0 j = true → asc l j ≠ k) ∨ (g.fr b ∨ ∃ n,g.jd b n),al:=fun j=>hasK m0 j = true,be:=fun j=>g.be (asc l j),sz:=fun j=>g.sz (asc l j),fr:=fun _=>False,jd:=fun _ _=>False,fn:=fun _=>False }
 let σ : Nat → Nat:=fun k=>(asb l k).getD 0
 have hσ : ∀ j,hasD l j = true → σ (asc l j) = j:=fun j hj=>by simp only [σ];rw [asb_asc hinj hj];rfl
 let p0 : Nat → Bool:=fun k=>match asb l k with|some j=>hasK m0 j|none=>false
 have hp0 : ∀ j,hasK m0 j = true → p0 (asc l j) = true:=fun j hj=>by simp only [p0];rw [asb_asc hinj (k0 j hj).1];exact hj
 have hpσ : ∀ k,p0 k = true → (σ k < L ∨ σ k % 2 = 1) ∧ (g0.al (σ k) → g.al k ∧ g0.be (σ k) = g.be k ∧ g0.sz (σ k) = g.sz k):=by
  intro k hk
  simp only [p0] at hk
  cases hb : asb l k with
  | none=>rw [hb] at hk;cases hk
  | some j =>
   rw [hb] at hk
   obtain ⟨q1,q2⟩:=asb_some hinj hb
   have e : σ k = j:=by simp only [σ,hb];rfl
   rw [e]
   exact ⟨.inl (k0 j hk).2,fun _=>⟨by rw [← q2];exact hal0 j hk,by simp only [g0];rw [q2],by simp only [g0];rw [q2]⟩⟩
 have hkw : KeepsW w w g g0:=⟨fun _ h=>h,fun _ _=>rfl⟩
 have hm00 : MSim w g0 L (mget m0):=by
  refine ⟨fun j=>by rw [← hasK_some],fun j hj=>.inl (k0 j hj).2,fun j hj hz=>hm.nro _ (hal0 j hj) hz,fun i j hi hj zi zj e=>hinj2 i j (k0 i hi).1 (k0 j hj).1 (hm.inj _ _ (hal0 i hi) (hal0 j hj) zi zj e),fun j b hb=>?_,hm.rolt,fun b hb=>?_,FJ.none (fun _ h=>h) (fun _ _ h=>h)⟩
  ·have h1:=(hm.blk _ _ (rdR_mem hrd hb)).renF hkw hpσ (fun _=>rfl) (fun cs hcs=>by
    cases b with
    | row t l=>cases hcs
    | box cs0=>cases hcs;exact namL_ren hp0 cs0 ((memOk_get hm0 hb).2.1 cs0 rfl)
    | pm _ _ _=>cases hcs
    | mp ks0 cs0=>cases hcs) (fun ks cs hcs=>by
    cases b with
    | row t l=>cases hcs
    | box cs0=>cases hcs
    | pm _ _ _=>cases hcs
    | mp ks0 cs0=>cases hcs;exact namL_ren hp0 cs0 ((memOk_get hm0 hb).2.2 _ cs0 rfl)) (.inl (by rw [nofB_ren];exact nofM_get hnfm hb))
   have h2 : renB σ (renB (asc l) b) = b:=by
    cases b with
    | row t l=>rfl
    | box cs0=>simp only [renB];rw [renL_inv (fun k hk=>hσ k (k0 k hk).1) cs0 ((memOk_get hm0 hb).2.1 cs0 rfl)]
    | pm _ _ _=>rfl
    | mp ks0 cs0=>simp only [renB];rw [renL_inv (fun k hk=>hσ k (k0 k hk).1) cs0 ((memOk_get hm0 hb).2.2 ks0 cs0 rfl)]
   rwa [h2] at h1
  ·rcases hb with hb|⟨k,hk,hz,rfl,hne⟩|hb
   ·exact ⟨(hm.nof b hb).1,(hm.nof b hb).2.1,fun j hj hz=>(hm.nof b hb).2.2 _ (hal0 j hj) hz⟩
   ·exact ⟨hm.lt_heap hk hz,hm.nro k hk hz,fun j hj hz2 e=>hne j hj (hm.inj _ _ (hal0 j hj) hk hz2 hz e)⟩
   ·exact ⟨hm.fj.lt hb,(hm.fj.nro b hb).1,fun j hj hz=>hm.fj.nal b hb _ (hal0 j hj) hz⟩
 have hr0 : RepL w g0 L args vs:=by
  refine ⟨by have:=hr.1;rw [renL_length] at this;exact this,fun i c x hc hx=>?_⟩
  have hc2 : (renL (asc l) args)[i]? = some (renV (asc l) c):=by
   have hlt : i < (renL (asc l) args).length:=by rw [renL_length];exact (List.getElem?_eq_some_iff.1 hc).1
   obtain ⟨c',h1,h2⟩:=renL_get (List.getElem?_eq_getElem hlt)
   rw [hc] at h1;cases h1
   rw [List.getElem?_eq_getElem hlt,h2]
  have hn:=namL_get hargs hc
  have h1:=(hr.2 i _ x hc2 hx).renF hkw hpσ (namV_ren hp0 c hn) (.inl (by rw [nofV_ren];exact nofL_get hnfa hc))
  rwa [renV_inv (fun k hk=>hσ k (k0 k hk).1) c hn] at h1
 refine (h w g0 vs hm00 hr0).mono fun e w' ⟨x,g',e1,e2,e3,e4,e5⟩=>?_
 let be2 : Nat → Nat:=fun k=>match asb l k with|some j=>(match hasK m1 j with|true=>g'.be j|false=>g.be k)|none=>g.be k
 let sz2 : Nat → Nat:=fun k=>match asb l k with|some j=>(match hasK m1 j with|true=>g'.sz j|false=>g.sz k)|none=>g.sz k
 let New : Nat → Nat → Prop:=fun k j=>asb l k = some j ∧ hasK m1 j = true
 let Old : Nat → Prop:=fun k=>g.al k ∧ (∀ j,¬ New k j) ∧ ∀ j,hasK m0 j = true → asc l j ≠ k
 let g2 : G:={ ro:=g'.ro,no:=g.no,al:=fun k=>(∃ j,New k j) ∨ Old k,be:=be2,sz:=sz2,fr:=fun b=>g.fr b ∨ g'.fr b,jd:=fun b n=>g.jd b n ∨ g'.jd b n,fn:=fun b=>(g.fr b ∧ g.fn b) ∨ (¬ g.fr b ∧ g'.fn b) }
 have hnew : ∀ k j,New k j → be2 k = g'.be j ∧ sz2 k = g'.sz j:=fun k j hn=>⟨by simp only [be2];rw [hn.1];simp only [hn.2],by simp only [sz2];rw [hn.1];simp only [hn.2]⟩
 have hold : ∀ k,(∀ j,¬ New k j) → be2 k = g.be k ∧ sz2 k = g.sz k:=fun k hn=>by
  simp only [be2,sz2]
  cases hb : asb l k with
  | none=>exact ⟨rfl,rfl⟩
  | some j =>
   simp only
   cases hj : hasK m1 j with
   | true=>exact absurd ⟨hb,hj⟩ (hn j)
   | false=>exact ⟨rfl,rfl⟩
 have hU : ∀ k,Old k → 0 < g.sz k → g'.no (g.be k):=fun k hk hz=>e5.no _ (.inr (.inl ⟨k,hk.1,hz,rfl,hk.2.2⟩))
 have hM : ∀ k,k ∉ frR (asc l) m0 m1 → g2.al k → g.al k ∧ g2.be k = g.be k ∧ g2.sz k = g.sz k:=by
  intro k hk ha
  rcases ha with ⟨j,hn⟩|ho
  ·obtain ⟨q1,q2⟩:=asb_some hinj hn.1
   have hj0 : hasK m0 j = true:=by
    cases hj : hasK m0 j with
    | true=>rfl
    | false=>exact absurd (frR_mem.2 ⟨j,hn.2,hj,q2⟩) hk
   have hal' : g'.al j:=(e3.al j).2 (by rw [← hasK_some];exact hn.2)
   obtain ⟨_,b2,b3⟩:=e5.al j (k0 j hj0).2 hal'
   refine ⟨by rw [← q2];exact hal0 j hj0,?_,?_⟩
   ·show be2 k = g.be k
    rw [(hnew k j hn).1,b2];simp only [g0];rw [q2]
   ·show sz2 k = g.sz k
    rw [(hnew k j hn).2,b3];simp only [g0];rw [q2]
  ·exact ⟨ho.1,(hold k ho.2.1).1,(hold k ho.2.1).2⟩
 have hp1 : ∀ j,hasK m1 j = true → (asc l j < base + L ∨ asc l j % 2 = 1) ∧ (g2.al (asc l j) → g'.al j ∧ g2.be (asc l j) = g'.be j ∧ g2.sz (asc l j) = g'.sz j):=by
  intro j hj
  have hn : New (asc l j) j:=⟨asb_asc hinj (k1 j hj),hj⟩
  refine ⟨?_,fun _=>⟨(e3.al j).2 (by rw [← hasK_some];exact hj),hnew _ _ hn⟩⟩
  cases hj0 : hasK m0 j with
  | true=>exact hm.lt _ (hal0 j hj0)
  | false=>exact .inl (newB_ok hok hj hj0).2
 have hkw2 : Keeps w' w' g' g2:=⟨fun _ h=>h,fun _ _=>rfl,fun _ h=>⟨.inr h,rfl⟩,fun _ _ h=>.inr h,fun b hb=>⟨fun h=>h.elim (fun h=>absurd (e5.no b (.inr (.inr (.inl h.1)))) (e3.fj.nro b (.inl hb)).2) (fun h=>h.2),fun h=>.inr ⟨fun hf=>(e3.fj.nro b (.inl hb)).2 (e5.no b (.inr (.inr (.inl hf)))),h⟩⟩⟩
 have hkw3 : Keeps w w' g g2:=⟨e5.ro,e4.same,fun b hb=>⟨.inl hb,e4.others b (.inr (.inr (.inl hb)))⟩,fun b n hb=>.inl hb,fun b hb=>⟨fun h=>h.elim (fun h=>h.2) (fun h=>absurd hb h.1),fun h=>.inl ⟨hb,h⟩⟩⟩
 have hme : ∀ k,putsM (catU (dlR (asc l) m0) (ptR (asc l) m1)) (fgtsM (frR (asc l) m0 m1) m) k =
   (match asb l k with|some j=>(match mget m1 j with|some b=>some (renB (asc l) b)|none=>(match hasK m0 j with|true=>none|false=>fgtsM (frR (asc l) m0 m1) m k))|none=>fgtsM (frR (asc l) m0 m1) m k):=by
  intro k
  rw [catU_eq,putsM_app,ptR_get k1 hinj hdist,dlR_get (fun k hk=>(k0 k hk).1) hinj]
  cases asb l k with
  | none=>rfl
  | some j=>rfl
 have hmo : ∀ k b,putsM (catU (dlR (asc l) m0) (ptR (asc l) m1)) (fgtsM (frR (asc l) m0 m1) m) k = some b → (∃ j b1,New k j ∧ mget m1 j = some b1 ∧ b = renB (asc l) b1) ∨ (Old k ∧ fgtsM (frR (asc l) m0 m1) m k = some b):=by
  intro k b hb
  rw [hme] at hb
  have hof : fgtsM (frR (asc l) m0 m1) m k = some b → g.al k:=fun hb=>(hm.al k).2 (by rw [← fgtsM_some (ks:=frR (asc l) m0 m1),hb];rfl)
  cases ha : asb l k with
  | none =>
   rw [ha] at hb
   refine .inr ⟨⟨hof hb,⟨fun j hn=>?_,fun j hj e=>?_⟩⟩,hb⟩
   ·have e9 : asb l k = some j:=hn.1
    rw [ha] at e9;cases e9
   ·rw [← e,asb_asc hinj (k0 j hj).1] at ha;cases ha
  | some j =>
   rw [ha] at hb
   simp only at hb
   cases h1 : mget m1 j with
   | some b1=>rw [h1] at hb;cases hb;exact .inl ⟨j,b1,⟨ha,by rw [hasK_some,h1];rfl⟩,h1,rfl⟩
   | none =>
    rw [h1] at hb
    simp only at hb
    cases h0 : hasK m0 j with
    | true=>rw [h0] at hb;cases hb
    | false =>
     rw [h0] at hb
     refine .inr ⟨⟨hof hb,⟨fun j2 hn=>?_,fun j2 hj e=>?_⟩⟩,hb⟩
     ·have e9 : asb l k = some j2:=hn.1
      rw [ha] at e9;cases e9
      have:=hn.2;rw [hasK_some,h1] at this;cases this
     ·rw [← e,asb_asc hinj (k0 j2 hj).1] at ha;cases ha
      rw [hj] at h0;cases h0
 refine ⟨x,g2,e1,e2.ren hkw2 hp1 hv,?_,⟨e4.os,e4.tape,e4.output,e4.size,e4.same,fun b hb=>e4.others b (.inl hb)⟩,⟨e5.ro,fun _ h=>h,fun k hk ha=>hM k (fun hf=>?_) ha⟩,fun fr xs hfr=>?_⟩
 ·refine ⟨fun k=>?_,fun k hk=>?_,fun k hk hz hro=>?_,fun i k hi hk zi zk he=>?_,fun k b hb=>?_,e3.rolt,fun b hb=>?_,hm.fj.join e3.fj (fun b hb=>e4.others b (.inr (.inr hb))) (fun b hb=>e5.no b (.inr (.inr hb))) (fun b hb=>?_) fun b hb k hk hz=>?_⟩
  ·constructor
   ·intro ha
    show (putsM _ _ k).isSome = true
    rw [hme]
    rcases ha with ⟨j,hn⟩|ho
    ·rw [hn.1]
     obtain ⟨b1,hb1⟩:=Option.isSome_iff_exists.1 (hasK_some (m:=m1) ▸ hn.2)
     simp only [hb1];rfl
    ·have hs : (fgtsM (frR (asc l) m0 m1) m k).isSome = true:=by rw [fgtsM_some];exact (hm.al k).1 ho.1
     cases ha : asb l k with
     | none=>exact hs
     | some j =>
      simp only
      have h1 : mget m1 j = none:=by
       cases h1 : mget m1 j with
       | none=>rfl
       | some b=>exact absurd ⟨ha,by rw [hasK_some,h1];rfl⟩ (ho.2.1 j)
      rw [h1]
      simp only
      cases h0 : hasK m0 j with
      | true=>exact absurd (asb_some hinj ha).2 (ho.2.2 j h0)
      | false=>exact hs
   ·intro hs
    obtain ⟨b,hb⟩:=Option.isSome_iff_exists.1 hs
    rcases hmo k b hb with ⟨j,b1,hn,_⟩|⟨ho,_⟩
    ·exact .inl ⟨j,hn⟩
    ·exact .inr ho
  ·rcases hk with ⟨j,hn⟩|ho
   ·have:=(hp1 j hn.2).1;rw [(asb_some hinj hn.1).2] at this;exact this
   ·exact hm.lt k ho.1
  ·rcases hk with ⟨j,hn⟩|ho
   ·have hro : g'.ro (be2 k):=hro
    rw [(hnew k j hn).1] at hro
    have hz : 0 < sz2 k:=hz
    rw [(hnew k j hn).2] at hz
    exact e3.nro j ((e3.al j).2 (by rw [← hasK_some];exact hn.2)) hz hro
   ·have hro : g'.ro (be2 k):=hro
    rw [(hold k ho.2.1).1] at hro
    have hz : 0 < sz2 k:=hz
    rw [(hold k ho.2.1).2] at hz
    exact (e3.nof _ (hU k ho hz)).2.1 hro
  ·have he : be2 i = be2 k:=he
   have zi : 0 < sz2 i:=zi
   have zk : 0 < sz2 k:=zk
   rcases hi with ⟨j,hn⟩|ho<;>rcases hk with ⟨j2,hn2⟩|ho2
   ·rw [(hnew i j hn).1,(hnew k j2 hn2).1] at he
    rw [(hnew i j hn).2] at zi
    rw [(hnew k j2 hn2).2] at zk
    have:=e3.inj j j2 ((e3.al j).2 (by rw [← hasK_some];exact hn.2)) ((e3.al j2).2 (by rw [← hasK_some];exact hn2.2)) zi zk he
    subst this
    rw [← (asb_some hinj hn.1).2,← (asb_some hinj hn2.1).2]
   ·rw [(hnew i j hn).1,(hold k ho2.2.1).1] at he
    rw [(hnew i j hn).2] at zi
    rw [(hold k ho2.2.1).2] at zk
    exact absurd he ((e3.nof _ (hU k ho2 zk)).2.2 j ((e3.al j).2 (by rw [← hasK_some];exact hn.2)) zi)
   ·rw [(hold i ho.2.1).1,(hnew k j2 hn2).1] at he
    rw [(hold i ho.2.1).2] at zi
    rw [(hnew k j2 hn2).2] at zk
    exact absurd he.symm ((e3.nof _ (hU i ho zi)).2.2 j2 ((e3.al j2).2 (by rw [← hasK_some];exact hn2.2)) zk)
   ·rw [(hold i ho.2.1).1,(hold k ho2.2.1).1] at he
    rw [(hold i ho.2.1).2] at zi
    rw [(hold k ho2.2.1).2] at zk
    exact hm.inj i k ho.1 ho2.1 zi zk he
  ·rcases hmo k b hb with ⟨j,b1,hn,hb1,rfl⟩|⟨ho,hb⟩
   ·have h1:=(e3.blk j b1 hb1).ren hkw2 hp1 (fun _=>rfl) (fun cs hcs=>(memOk_get hm1 hb1).2.1 cs hcs) (fun ks cs hcs=>(memOk_get hm1 hb1).2.2 ks cs hcs)
    show BlkRep w' g2 (base + L) (be2 k) (sz2 k) _
    rw [(hnew k j hn).1,(hnew k j hn).2];exact h1
   ·show BlkRep w' g2 (base + L) (be2 k) (sz2 k) _
    rw [(hold k ho.2.1).1,(hold k ho.2.1).2]
    refine ((fgtsM_ok (frR (asc l) m0 m1) hm).blk k b hb).mono' hkw3 (Nat.le_refl _) (fun hz=>e4.others _ (.inr (.inl ⟨k,ho.1,hz,rfl,ho.2.2⟩))) fun k2 hk2 _ ha=>hM k2 (fun hf=>?_) ha
    have:=fgtsM_men (frR (asc l) m0 m1) m k2 (.inl hf) k b hb
    rw [hk2] at this;cases this
  ·have hn:=e3.nof b (e5.no b (.inl hb))
   refine ⟨hn.1,hn.2.1,fun k hk hz=>?_⟩
   have hz : 0 < sz2 k:=hz
   rcases hk with ⟨j,hnw⟩|ho
   ·show be2 k ≠ b
    rw [(hnew k j hnw).2] at hz
    rw [(hnew k j hnw).1];exact hn.2.2 j ((e3.al j).2 (by rw [← hasK_some];exact hnw.2)) hz
   ·show be2 k ≠ b
    rw [(hold k ho.2.1).2] at hz
    rw [(hold k ho.2.1).1];exact (hm.nof b hb).2.2 k ho.1 hz
  ·rcases hb with hb|hb
   ·exact ⟨(e3.nof b (e5.no b (.inr (.inr hb)))).2.1,(hm.fj.nro b hb).2⟩
   ·exact ⟨(e3.fj.nro b hb).1,fun hn=>(e3.fj.nro b hb).2 (e5.no b (.inl hn))⟩
  ·have hz : 0 < sz2 k:=hz
   show be2 k ≠ b
   rcases hk with ⟨j,hnw⟩|ho
   ·rw [(hnew k j hnw).2] at hz
    rw [(hnew k j hnw).1]
    have hj : g'.al j:=(e3.al j).2 (by rw [← hasK_some];exact hnw.2)
    rcases hb with hb|hb
    ·exact (e3.nof b (e5.no b (.inr (.inr hb)))).2.2 j hj hz
    ·exact e3.fj.nal b hb j hj hz
   ·rw [(hold k ho.2.1).2] at hz
    rw [(hold k ho.2.1).1]
    rcases hb with hb|hb
    ·exact hm.fj.nal b hb k ho.1 hz
    ·exact fun e=>(e3.fj.nro b hb).2 (e ▸ hU k ho hz)
 ·obtain ⟨j,h1,h2,h3⟩:=frR_mem.1 hf
  have:=(newB_ok hok h1 h2).1
  omega
 ·have h1:=fgtsF_rep (frR (asc l) m0 m1) hfr
  refine ⟨h1.1,fun i c x hc hx=>(h1.2 i c x hc hx).mono' hkw3 (Nat.le_refl _) fun k hk _ ha=>hM k (fun hf=>?_) ha⟩
  have:=fgtsF_men (frR (asc l) m0 m1) fr k (.inl hf)
  rw [menL_get hc hk] at this;cases this
open Go Go.RowKit
mutual
def frzA : AV → Mem → (AV → Prop) → Prop
 | .own t k off n _,m,K=>memK m k fun b=>match b with
  | .row t' l=>match tyB t' t with
   | true=>asK t' t l fun l=>off + n ≤ l.length ∧ K (.vec t ((l.drop off).take n))
   | false=>False
  | _=>False
 | .agg cs,m,K=>frzL cs m fun cs=>K (.agg cs)
 | .tup cs,m,K=>frzL cs m fun cs=>K (.tup cs)
 | .ptr _ _,_,_=>False
 | .rptr _ _ _ _,_,_=>False
 | .clo _ _ _,_,_=>False
 | .mp _,_,_=>False
 | v,_,K=>K v
def frzL : List AV → Mem → (List AV → Prop) → Prop
 | [],_,K=>K []
 | c :: r,m,K=>frzA c m fun c=>frzL r m fun r=>K (c :: r)
end
def G.all (g : G) : G:={ ro:=fun b=>g.ro b ∨ ∃ k,g.al k ∧ 0 < g.sz k ∧ g.be k = b,no:=g.no,al:=fun _=>False,be:=g.be,sz:=g.sz,fr:=g.fr,jd:=g.jd,fn:=g.fn }
theorem keeps_all (w : World) (g : G) : Keeps w w g g.all:=⟨fun _ h=>.inl h,fun _ _=>rfl,.id⟩
theorem Rep.toVecA {w : World} {g : G} {lim : Nat} {m : Nat → Option Blk} (hm : MSim w g lim m) {t : Ty} {k off n : Nat} {c : Option Nat} {l : List (El t)} (hk : m k = some (.row t l)) (hl : off + n ≤ l.length) {x : Value}
  (h : Rep w g lim (.own t k off n c) x) : Rep w g.all 0 (.vec t ((l.drop off).take n)) x:=by
 have hal : g.al k:=(hm.al k).2 (by simp [hk])
 have hv:=h.toVec hm hk hl
 have h1 : Rep w g.all 0 (.vec t ((l.drop off).take n)) x:=hv.pure rfl ⟨fun b hb=>by
  rcases hb with hb|hb
  ·exact .inl hb
  ·exact .inr ⟨k,hal,hb.1,hb.2.symm⟩,fun _ _=>rfl,.id⟩
 exact h1
mutual
theorem frzA_ok : ∀ (v : AV) {m : Mem} {K : AV → Prop},frzA v m K → ∃ v',K v' ∧ ∀ (w : World) (g : G) (lim : Nat) (x : Value),MSim w g lim (mget m) → Rep w g lim v x → Rep w g.all 0 v' x
 | .top,m,K,h=>⟨_,h,fun w g lim x _ _=>.top x⟩
 | .tt,m,K,h=>⟨_,h,fun w g lim x _ hr=>by cases hr;exact .tt⟩
 | .ff,m,K,h=>⟨_,h,fun w g lim x _ hr=>by cases hr;exact .ff⟩
 | .emp _,m,K,h=>⟨_,h,fun w g lim x _ hr=>hr.pure rfl (keeps_all w g)⟩
 | .bl _ _,m,K,h=>⟨_,h,fun w g lim x _ hr=>hr.pure rfl (keeps_all w g)⟩
 | .lit _,m,K,h=>⟨_,h,fun w g lim x _ hr=>by cases hr;exact .lit _⟩
 | .vec _ _,m,K,h=>⟨_,h,fun w g lim x _ hr=>hr.pure rfl (keeps_all w g)⟩
 | .vptr _ _ _ _,m,K,h=>⟨_,h,fun w g lim x _ hr=>hr.pure rfl (keeps_all w g)⟩
 | .fec _ _ _,m,K,h=>⟨_,h,fun w g lim x _ hr=>hr.pure rfl (keeps_all w g)⟩
 | .fptr _ _ _ _,m,K,h=>⟨_,h,fun w g lim x _ hr=>hr.pure rfl (keeps_all w g)⟩
 | .sl,m,K,h=>⟨_,h,fun w g lim x _ hr=>hr.pure rfl (keeps_all w g)⟩
 | .ptr _ _,m,K,h=>by simp only [frzA] at h
 | .rptr _ _ _ _,m,K,h=>by simp only [frzA] at h
 | .clo _ _ _,m,K,h=>by simp only [frzA] at h
 | .mp _,m,K,h=>by simp only [frzA] at h
 | .agg cs,m,K,h=>by
  simp only [frzA] at h
  obtain ⟨cs',hK,hh⟩:=frzL_ok cs h
  refine ⟨_,hK,fun w g lim x hm hr=>?_⟩
  cases hr with
  | agg _ xs hl hx=>have:=hh w g lim xs hm ⟨hl,hx⟩;exact .agg _ xs this.1 this.2
 | .tup cs,m,K,h=>by
  simp only [frzA] at h
  obtain ⟨cs',hK,hh⟩:=frzL_ok cs h
  refine ⟨_,hK,fun w g lim x hm hr=>?_⟩
  cases hr with
  | tup _ xs hl hx=>have:=hh w g lim xs hm ⟨hl,hx⟩;exact .tup _ xs this.1 this.2
 | .own t k off n c,m,K,h=>by
  simp only [frzA] at h
  obtain ⟨b,hb,h⟩:=memK_ok h
  cases b with
  | box _=>exact h.elim
  | mp _ _=>exact h.elim
  | pm _ _ _=>exact h.elim
  | row t' l =>
   simp only at h
   cases ht : tyB t' t with
   | false=>rw [ht] at h;exact h.elim
   | true =>
    rw [ht] at h
    have e1:=tyB_ok ht
    subst e1
    obtain ⟨e2,h2⟩:=asK_ok h
    exact ⟨_,h2.2,fun w g lim x hm hr=>hr.toVecA hm hb h2.1⟩
theorem frzL_ok : ∀ (cs : List AV) {m : Mem} {K : List AV → Prop},frzL cs m K → ∃ cs',K cs' ∧ ∀ (w : World) (g : G) (lim : Nat) (xs : Array Value),MSim w g lim (mget m) → RepL w g lim cs xs → RepL w g.all 0 cs' xs
 | [],m,K,h=>⟨[],h,fun w g lim xs _ hr=>⟨hr.1,fun i c x hc=>by simp at hc⟩⟩
 | c :: r,m,K,h=>by
  simp only [frzL] at h
  obtain ⟨c',h,hc'⟩:=frzA_ok c h
  obtain ⟨r',hK,hr'⟩:=frzL_ok r h
  refine ⟨_,hK,fun w g lim xs hm hr=>?_⟩
  obtain ⟨x,ys,hxs⟩ : ∃ x ys,xs.toList = x :: ys:=by
   cases hx : xs.toList with
   | nil=>have:=hr.1;rw [← Array.length_toList,hx] at this;simp at this
   | cons x ys=>exact ⟨x,ys,rfl⟩
  have hx2 : xs = (x :: ys).toArray:=by rw [← hxs]
  subst hx2
  have h1:=hc' w g lim x hm (hr.2 0 c x (by simp) (by simp))
  have h2:=hr' w g lim ys.toArray hm ⟨by have:=hr.1;simpa using this,fun i c2 x2 hc2 hx2=>hr.2 (i + 1) c2 x2 (by simpa using hc2) (by simpa using hx2)⟩
  exact RepL.cons0 h1 h2
end
theorem MSim.all {w : World} {g : G} {lim : Nat} {m : Nat → Option Blk} (h : MSim w g lim m) : MSim w g.all 0 (mget []):=
 ⟨fun k=>by simp [G.all,mget],fun k hk=>hk.elim,fun k hk=>hk.elim,fun k j hk=>hk.elim,fun k b hb=>by simp [mget] at hb,fun b hb=>by
  rcases hb with hb|⟨k,hk,hz,rfl⟩
  ·exact h.rolt b hb
  ·exact h.lt_heap hk hz,fun b hb=>⟨(h.nof b hb).1,fun hr=>by
   rcases hr with hr|⟨k,hk,hz,e⟩
   ·exact (h.nof b hb).2.1 hr
   ·exact (h.nof b hb).2.2 k hk hz e,fun k hk=>hk.elim⟩,h.fj.step (fun _ _=>rfl) (fun b hb=>⟨fun hr=>by
   rcases hr with hr|⟨k,hk,hz,e⟩
   ·exact (h.fj.nro b hb).1 hr
   ·exact h.fj.nal b hb k hk hz e,(h.fj.nro b hb).2⟩) fun b hb k hk=>hk.elim⟩
def rdK (ρ : Nat → Nat) (m : Mem) : Mem → Prop
 | []=>True
 | (k,b) :: r=>mget m (ρ k) = some (renB ρ b) ∧ rdK ρ m r
theorem rdK_ok {ρ : Nat → Nat} {m : Mem} : ∀ {m0 : Mem},rdK ρ m m0 → ∀ p ∈ rdR ρ m0,mget m p.1 = some p.2
 | [],_,p,hp=>by simp [rdR] at hp
 | (k,b) :: r,h,p,hp=>by
  simp only [rdR,List.mem_cons] at hp
  rcases hp with rfl|hp
  ·exact h.1
  ·exact rdK_ok h.2 p hp
def liftC (l : List (Nat × Nat)) (m0 : Mem) (v : AV) (m1 : Mem) : Act1:=⟨renV (asc l) v,rdR (asc l) m0,catU (dlR (asc l) m0) (ptR (asc l) m1),frR (asc l) m0 m1⟩
def ascK : List (Nat × Nat) → Nat → (Nat → Prop) → Prop
 | [],_,K=>K 0
 | (i,a) :: r,k,K=>match Nat.beq i k with|true=>K a|false=>ascK r k K
theorem ascK_eq (l : List (Nat × Nat)) (k : Nat) (K : Nat → Prop) : ascK l k K = K (asc l k):=by
 induction l with
 | nil=>rfl
 | cons p r ih =>
  obtain ⟨i,a⟩:=p
  simp only [ascK,asc]
  cases Nat.beq i k with
  | true=>rfl
  | false=>exact ih
mutual
def renVK (l : List (Nat × Nat)) : AV → (AV → Prop) → Prop
 | .own t k o n c,K=>ascK l k fun k=>K (.own t k o n c)
 | .ptr k o,K=>ascK l k fun k=>K (.ptr k o)
 | .rptr t k i o,K=>ascK l k fun k=>K (.rptr t k i o)
 | .mp k,K=>ascK l k fun k=>K (.mp k)
 | .agg cs,K=>renLK l cs fun cs=>K (.agg cs)
 | .tup cs,K=>renLK l cs fun cs=>K (.tup cs)
 | .clo f a b,K=>renLK l a fun a=>renLK l b fun b=>K (.clo f a b)
 | v,K=>K v
def renLK (l : List (Nat × Nat)) : List AV → (List AV → Prop) → Prop
 | [],K=>K []
 | c :: r,K=>renVK l c fun c=>renLK l r fun r=>K (c :: r)
end
mutual
theorem renVK_eq (l : List (Nat × Nat)) : ∀ (v : AV) (K : AV → Prop),renVK l v K = K (renV (asc l) v)
 | .own _ _ _ _ _,K=>by simp only [renVK,renV,ascK_eq]
 | .ptr _ _,K=>by simp only [renVK,renV,ascK_eq]
 | .rptr _ _ _ _,K=>by simp only [renVK,renV,ascK_eq]
 | .mp _,K=>by simp only [renVK,renV,ascK_eq]
 | .agg cs,K=>by simp only [renVK,renV];rw [renLK_eq l cs]
 | .tup cs,K=>by simp only [renVK,renV];rw [renLK_eq l cs]
 | .clo f a b,K=>by simp only [renVK,renV];rw [renLK_eq l a,renLK_eq l b]
 | .top,K=>by simp only [renVK,renV]
 | .tt,K=>by simp only [renVK,renV]
 | .ff,K=>by simp only [renVK,renV]
 | .bl _ _,K=>by simp only [renVK,renV]
 | .emp _,K=>by simp only [renVK,renV]
 | .lit _,K=>by simp only [renVK,renV]
 | .vec _ _,K=>by simp only [renVK,renV]
 | .vptr _ _ _ _,K=>by simp only [renVK,renV]
 | .fec _ _ _,K=>by simp only [renVK,renV]
 | .fptr _ _ _ _,K=>by simp only [renVK,renV]
 | .sl,K=>by simp only [renVK,renV]
theorem renLK_eq (l : List (Nat × Nat)) : ∀ (cs : List AV) (K : List AV → Prop),renLK l cs K = K (renL (asc l) cs)
 | [],K=>by simp only [renLK,renL]
 | c :: r,K=>by simp only [renLK,renL];rw [renVK_eq l c,renLK_eq l r]
end
def renBK (l : List (Nat × Nat)) (b : Blk) (K : Blk → Prop) : Prop:=match b with
 | .box cs=>renLK l cs fun cs=>K (.box cs)
 | .row t x=>K (.row t x)
 | .mp ks cs=>renLK l cs fun cs=>K (.mp ks cs)
 | .pm ik F n=>K (.pm ik F n)
theorem renBK_eq (l : List (Nat × Nat)) (b : Blk) (K : Blk → Prop) : renBK l b K = K (renB (asc l) b):=by
 cases b with
 | box cs=>simp only [renBK,renB];rw [renLK_eq]
 | row t x=>rfl
 | mp ks cs=>simp only [renBK,renB];rw [renLK_eq]
 | pm ik F n=>rfl
def rdRK (l : List (Nat × Nat)) : Mem → (List (Nat × Blk) → Prop) → Prop
 | [],K=>K []
 | (k,b) :: r,K=>ascK l k fun k=>renBK l b fun b=>rdRK l r fun r=>K ((k,b) :: r)
theorem rdRK_eq (l : List (Nat × Nat)) : ∀ (m : Mem) (K : List (Nat × Blk) → Prop),rdRK l m K = K (rdR (asc l) m)
 | [],K=>rfl
 | (k,b) :: r,K=>by simp only [rdRK,rdR,ascK_eq,renBK_eq];rw [rdRK_eq l r]
def upRK (l : List (Nat × Nat)) (m1 : Mem) : Mem → (List (Nat × Option Blk) → Prop) → Prop
 | [],K=>ptRK l m1 K
 | (k,_) :: r,K=>ascK l k fun k=>upRK l m1 r fun r=>K ((k,none) :: r)
where ptRK (l : List (Nat × Nat)) : Mem → (List (Nat × Option Blk) → Prop) → Prop
 | [],K=>K []
 | (k,b) :: r,K=>ascK l k fun k=>renBK l b fun b=>ptRK l r fun r=>K ((k,some b) :: r)
theorem ptRK_eq (l : List (Nat × Nat)) : ∀ (m : Mem) (K : List (Nat × Option Blk) → Prop),upRK.ptRK l m K = K (ptR (asc l) m)
 | [],K=>rfl
 | (k,b) :: r,K=>by simp only [upRK.ptRK,ptR,ascK_eq,renBK_eq];rw [ptRK_eq l r]
theorem upRK_eq (l : List (Nat × Nat)) (m1 : Mem) : ∀ (m : Mem) (K : List (Nat × Option Blk) → Prop),upRK l m1 m K = K (catU (dlR (asc l) m) (ptR (asc l) m1))
 | [],K=>by simp only [upRK,dlR,catU];exact ptRK_eq l m1 K
 | (k,b) :: r,K=>by simp only [upRK,dlR,catU,ascK_eq];rw [upRK_eq l m1 r]
def frRK (l : List (Nat × Nat)) (m0 : Mem) : Mem → (List Nat → Prop) → Prop
 | [],K=>K []
 | (k,_) :: r,K=>match hasK m0 k with
  | true=>frRK l m0 r K
  | false=>ascK l k fun k=>frRK l m0 r fun r=>K (k :: r)
theorem frRK_eq (l : List (Nat × Nat)) (m0 : Mem) : ∀ (m : Mem) (K : List Nat → Prop),frRK l m0 m K = K (frR (asc l) m0 m)
 | [],K=>rfl
 | (k,b) :: r,K=>by
  simp only [frRK,frR]
  cases hasK m0 k with
  | true=>exact frRK_eq l m0 r K
  | false=>simp only [ascK_eq];rw [frRK_eq l m0 r]
def liftCK (l : List (Nat × Nat)) (m0 : Mem) (v : AV) (m1 : Mem) (K : Act1 → Prop) : Prop:=
 renVK l v fun v=>rdRK l m0 fun rd=>upRK l m1 m0 fun up=>frRK l m0 m1 fun fr=>K ⟨v,rd,up,fr⟩
theorem liftCK_eq (l : List (Nat × Nat)) (m0 : Mem) (v : AV) (m1 : Mem) (K : Act1 → Prop) : liftCK l m0 v m1 K = K (liftC l m0 v m1):=by
 unfold liftCK liftC
 rw [renVK_eq,rdRK_eq,upRK_eq,frRK_eq]
theorem callEv {P : Program} {base : Nat} {fid : FuncId} {args args' : List AV} {m0 m1 : Mem} {v : AV} (h : Ev1 P fid args m0 v m1) (l : List (Nat × Nat)) {f : List AV} {m : Mem} {d : Option Nat} {K : List AV → Mem → Prop} {J : Prop}
  (hargs : renL (asc l) args = args') (hrd : rdK (asc l) m m0) (hok : liftB base l args m0 v m1 = true) (hK : liftCK l m0 v m1 fun c=>applyK c f m d K) :
  (∃ c : Act1,(∀ p ∈ c.rd,mget m p.1 = some p.2) ∧ CAct P base fid args' c ∧ applyK c f m d K) ∨ J:=by
 rw [liftCK_eq] at hK
 exact .inl ⟨liftC l m0 v m1,rdK_ok hrd,by rw [← hargs];exact h.cact base l hok,hK⟩
theorem callEvD {P : Program} {base : Nat} {fid : FuncId} {args args' : List AV} {m0 m1 : Mem} {v : AV} (h : Ev1 P fid args m0 v m1) (l : List (Nat × Nat)) {m : Mem} {K : Act1 → Prop}
  (hargs : renL (asc l) args = args') (hrd : rdK (asc l) m m0) (hok : liftB base l args m0 v m1 = true) (hK : liftCK l m0 v m1 K) :
  ∃ c : Act1,(∀ p ∈ c.rd,mget m p.1 = some p.2) ∧ CAct P base fid args' c ∧ K c:=by
 rw [liftCK_eq] at hK
 exact ⟨liftC l m0 v m1,rdK_ok hrd,by rw [← hargs];exact h.cact base l hok,hK⟩
theorem callApiD {P : Program} {base : Nat} {fid : FuncId} {args : List AV} {v : AV} (h : Api P fid args v) {m : Mem} {K : Act1 → Prop} (ha : dataL args = true) (hv : pureV v = true) (hK : K (vA v)) :
  ∃ c : Act1,(∀ p ∈ c.rd,mget m p.1 = some p.2) ∧ CAct P base fid args c ∧ K c:=
 ⟨vA v,by simp [vA],h.cact ha hv base,hK⟩
theorem Le.ownE {t : Ty} {k o n : Nat} (h : n = 0) : Le (.own t k o n (some 0)) (.emp t):=fun _ _ _ _ hr=>by
 subst h
 cases hr with
 | own _ _ _ _ b cap _ hk hc hcc hh=>obtain rfl:=hcc 0 rfl;exact .emp _ _
 | ownE _ _ _ _ ad hk hcc=>exact .emp _ _
theorem Le.vec {t : Ty} {l l' : List (El t)} (h : l = l') : Le (.vec t l) (.vec t l'):=by subst h;exact Le.refl _
theorem Le.emp (t : Ty) : Le (.emp t) (.vec t []):=fun _ _ _ _ hr=>by cases hr;exact .vecE _ _ _
theorem Le.own {t : Ty} {k o n n' : Nat} {c : Option Nat} (h : n = n') : Le (.own t k o n c) (.own t k o n' c):=by subst h;exact Le.refl _
theorem Le.nil (t : Ty) : Le (.lit (.slice none 0 0)) (.vec t []):=fun _ _ _ _ hr=>by cases hr;exact .vecE _ _ _
open Go Go.RowKit
mutual
def scalB : AV → Bool
 | .tt=>true
 | .ff=>true
 | .top=>true
 | .lit _=>true
 | .bl _ _=>true
 | .emp _=>true
 | .agg cs=>scalBL cs
 | .tup cs=>scalBL cs
 | _=>false
def scalBL : List AV → Bool
 | []=>true
 | c :: r=>match scalB c with|true=>scalBL r|false=>false
end
theorem scalBL_get {cs : List AV} (h : scalBL cs = true) {i : Nat} {c : AV} (hc : cs[i]? = some c) : scalB c = true:=by
 induction cs generalizing i with
 | nil=>simp at hc
 | cons a r ih =>
  simp only [scalBL] at h
  cases ha : scalB a with
  | false=>rw [ha] at h;cases h
  | true =>
   rw [ha] at h
   cases i with
   | zero=>simp at hc;subst hc;exact ha
   | succ i=>simp at hc;exact ih h hc
theorem Rep.scal {w w' : World} {g g' : G} {lim lim' : Nat} {v : AV} {x : Value} (h : Rep w g lim v x) (hs : scalB v = true) : Rep w' g' lim' v x:=by
 induction h with
 | top x=>exact .top x
 | tt=>exact .tt
 | ff=>exact .ff
 | emp t a=>exact .emp t a
 | bl p q b h1 h2=>exact .bl p q b h1 h2
 | lit v=>exact .lit v
 | agg cs xs hl h ih=>exact .agg cs xs hl fun i c x hc hx=>ih i c x hc hx (scalBL_get (by simpa [scalB] using hs) hc)
 | tup cs xs hl h ih=>exact .tup cs xs hl fun i c x hc hx=>ih i c x hc hx (scalBL_get (by simpa [scalB] using hs) hc)
 | _=>cases hs
def G.lnd (g : G) : G:={ ro:=fun b=>g.ro b ∨ ∃ k,g.al k ∧ 0 < g.sz k ∧ g.be k = b,no:=fun b=>g.no b ∨ (g.fr b ∨ ∃ n,g.jd b n),al:=fun _=>False,be:=g.be,sz:=g.sz,fr:=fun _=>False,jd:=fun _ _=>False,fn:=fun _=>False }
theorem MSim.lnd {w : World} {g : G} {lim : Nat} {m : Nat → Option Blk} (h : MSim w g lim m) : MSim w g.lnd 0 (mget []):=
 ⟨fun k=>by simp [G.lnd,mget],fun k hk=>hk.elim,fun k hk=>hk.elim,fun k j hk=>hk.elim,fun k b hb=>by simp [mget] at hb,fun b hb=>by
  rcases hb with hb|⟨k,hk,hz,rfl⟩
  ·exact h.rolt b hb
  ·exact h.lt_heap hk hz,fun b hb=>by
  rcases hb with hb|hb
  ·refine ⟨(h.nof b hb).1,fun hr=>?_,fun k hk=>hk.elim⟩
   rcases hr with hr|⟨k,hk,hz,e⟩
   ·exact (h.nof b hb).2.1 hr
   ·exact (h.nof b hb).2.2 k hk hz e
  ·refine ⟨h.fj.lt hb,fun hr=>?_,fun k hk=>hk.elim⟩
   rcases hr with hr|⟨k,hk,hz,e⟩
   ·exact (h.fj.nro b hb).1 hr
   ·exact h.fj.nal b hb k hk hz e,FJ.none (fun _ h=>h) (fun _ _ h=>h)⟩
theorem Api.lend {P : Program} {fid : FuncId} {args argsV : List AV} {m0 : Mem} {v : AV} (h : Api P fid argsV v) (hf : frzL args m0 fun a=>a = argsV) (hv : scalB v = true) (hn : nofL argsV = true:=by rfl) : Ev1 P fid args m0 v m0:=by
 intro w g vs hm ha
 obtain ⟨a',rfl,hr⟩:=frzL_ok args hf
 have hr2:=hr w g L vs hm ha
 refine (h w g.lnd vs hm.lnd ⟨hr2.1,fun i c x hc hx=>Rep.monoF (g:=g.all) (g':=g.lnd) ⟨fun _ h=>h,fun _ _=>rfl⟩ (Nat.le_refl _) (hr2.2 i c x hc hx) (.inl (nofL_get hn hc)) fun k _ _ hk=>hk.elim⟩).mono fun e w' ⟨x,g',e1,e2,e3,e4,e5⟩=>?_
 let g2 : G:={ ro:=fun b=>g'.ro b ∧ ∀ k,g.al k → 0 < g.sz k → g.be k ≠ b,no:=g.no,al:=g.al,be:=g.be,sz:=g.sz,fr:=g.fr,jd:=g.jd,fn:=g.fn }
 have hbe : ∀ k,g.al k → 0 < g.sz k → w'.heap[g.be k]? = w.heap[g.be k]?:=fun k hk hz=>e4.same _ (.inr ⟨k,hk,hz,rfl⟩)
 have hkeep : Keeps w w' g g2:=⟨fun b hb=>⟨e5.ro b (.inl hb),fun k hk hz e=>hm.nro k hk hz (e ▸ hb)⟩,fun b hb=>e4.same b (.inl hb),fun b hb=>⟨hb,e4.others b (.inr (.inl hb))⟩,fun b n hb=>hb,fun _ _=>Iff.rfl⟩
 refine ⟨x,g2,e1,e2.scal hv,?_,⟨e4.os,e4.tape,e4.output,e4.size,fun b hb=>e4.same b (.inl hb),fun b hb=>e4.others b (.inl hb)⟩,⟨hkeep.ro,fun _ h=>h,fun _ _ ha=>⟨ha,rfl,rfl⟩⟩⟩
 refine ⟨hm.al,hm.lt,fun k hk hz hro=>hro.2 k hk hz rfl,hm.inj,fun k b hb=>?_,fun b hb=>e3.rolt b hb.1,fun b hb=>?_,hm.fj.step (fun b hb=>e4.others b (.inr hb)) (fun b hb=>⟨fun hro=>(e3.nof b (e5.no b (.inr hb))).2.1 hro.1,(hm.fj.nro b hb).2⟩) hm.fj.nal⟩
 ·have hal:=(hm.al k).2 (by simp [hb])
  exact (hm.blk k b hb).mono' hkeep (Nat.le_refl _) (hbe k hal) fun _ _ _ ha=>⟨ha,rfl,rfl⟩
 ·have hn:=e3.nof b (e5.no b (.inl hb))
  exact ⟨hn.1,fun hro=>hn.2.1 hro.1,(hm.nof b hb).2.2⟩
theorem Le.cap {t : Ty} {k o n : Nat} {c : Option Nat} : Le (.own t k o n c) (.own t k o n none):=fun _ _ _ _ hr=>by
 cases hr with
 | own _ _ _ _ b cap _ hk hc hcc hh=>exact .own _ _ _ _ b cap none hk hc (fun n h=>by cases h) hh
 | ownE _ _ _ _ ad hk hcc=>exact .ownE _ _ _ _ ad hk (fun n h=>by cases h)
theorem Ev1.cap {P : Program} {fid : FuncId} {t : Ty} {k o n : Nat} {rest : List AV} {m0 m1 : Mem} {v : AV} (h : ∀ c,n ≤ c → Ev1 P fid (.own t k o n (some c) :: rest) m0 v m1) : Ev1 P fid (.own t k o n none :: rest) m0 v m1:=by
 intro w g vs hm ha
 have hlt : 0 < vs.size:=by have:=ha.1;simp at this;omega
 have h0:=ha.2 0 (.own t k o n none) vs[0] (by simp) (Array.getElem?_eq_getElem hlt)
 generalize hx : vs[0] = x at h0
 have key : ∀ cap,n ≤ cap → Rep w g L (.own t k o n (some cap)) x → Calls P fid vs w fun e w'=>∃ x g',e = .returned x ∧ Rep w' g' L v x ∧ MSim w' g' L (mget m1) ∧ Tr g w w' ∧ LeG L g g':=by
  intro cap hc hr
  refine h cap hc w g vs hm ⟨ha.1,fun i c x hci hxi=>?_⟩
  cases i with
  | zero =>
   simp at hci;subst hci
   rw [Array.getElem?_eq_getElem hlt,hx] at hxi
   cases hxi
   exact hr
  | succ i=>exact ha.2 (i + 1) c x (by simpa using hci) hxi
 cases h0 with
 | own _ _ _ _ b cap _ hk hc hcc hh=>exact key cap hc (.own _ _ _ _ b cap _ hk hc (fun n h=>by cases h;rfl) hh)
 | ownE _ _ _ _ ad hk hcc=>exact key 0 (Nat.le_refl _) (.ownE _ _ _ _ ad hk (fun n h=>by cases h;rfl))
open Go Go.RowKit
def freshB (base j : Nat) (m : Mem) (oth : List AV) : Bool:=
 match Nat.beq (j % 2) 1 with
 | true=>match Nat.ble base j with
  | true=>match hasK m j with
   | true=>false
   | false=>match memB j m with
    | true=>match menL j oth with|true=>false|false=>true
    | false=>false
  | false=>false
 | false=>false
theorem freshB_ok {base j : Nat} {m : Mem} {oth : List AV} (h : freshB base j m oth = true) : j % 2 = 1 ∧ base ≤ j ∧ mget m j = none ∧ (∀ i b,mget m i = some b → menB j b = false) ∧ menL j oth = false:=by
 unfold freshB at h
 split at h
 ·rename_i h1
  split at h
  ·rename_i h2
   split at h
   ·cases h
   ·rename_i h3
    split at h
    ·rename_i h4
     split at h
     ·cases h
     ·rename_i h5
      refine ⟨nbt.1 h1,Nat.le_of_ble_eq_true h2,?_,memB_ok h4,h5⟩
      rw [hasK_some] at h3
      cases hm : mget m j with
      | none=>rfl
      | some b=>rw [hm] at h3;cases h3
    ·cases h
  ·cases h
 ·cases h
def finMix (t : Ty) (k off n : Nat) (t2 : Ty) (l2 : List (El t2)) (m : Mem) (K : Mem → Prop) : Prop:=match t2,l2 with
 | .boxF,l2=>match Nat.beq (csz t) 2 with
  | true=>memK m k fun b=>match b with
   | .row t' l=>match t',l with
    | .boxM,l=>(off + n ≤ l.length ∧ (l.drop off).take n = l2.map fun b=>(true,b)) ∧ mdelC m k K
    | _,_=>False
   | _=>False
  | false=>False
 | _,_=>False
mutual
def finV (base : Nat) (tgt : Mem) (oth : List AV) : AV → AV → Mem → (Mem → Prop) → Prop
 | .own t k off n _,e,m,K=>match e with
  | .own t2 j o2 n2 c2=>match c2 with
   | some _=>False
   | none=>match Nat.beq o2 0 with
    | false=>False
    | true=>match Nat.beq off 0 with
     | false=>False
     | true=>match tyB t t2 with
      | false=>False
      | true=>memK m k fun b=>match b with
       | .box _=>False
       | .mp _ _=>False
       | .pm _ _ _=>False
       | .row t' l=>match tyB t' t with
        | false=>False
        | true=>memK tgt j fun b2=>match b2 with
         | .box _=>False
         | .mp _ _=>False
         | .pm _ _ _=>False
         | .row t3 l2=>asK t' t2 l fun l=>asK t3 t2 l2 fun l2=>(n = n2 ∧ n ≤ l.length ∧ l.take n = l2) ∧
          match Nat.beq k j with
          | true=>msetC m j (.row t2 l2) K
          | false=>match freshB base j m oth with
           | true=>mdelC m k fun m=>msetC m j (.row t2 l2) K
           | false=>False
  | .vec t2 l2=>match tyB t t2 with
   | false=>finMix t k off n t2 l2 m K
   | true=>memK m k fun b=>match b with
    | .box _=>False
    | .mp _ _=>False
    | .pm _ _ _=>False
    | .row t' l=>match tyB t' t with
     | false=>False
     | true=>asK t' t2 l fun l=>(off + n ≤ l.length ∧ (l.drop off).take n = l2) ∧ mdelC m k K
  | .fec j t2 l2=>match j with
   | true=>False
   | false=>match tyB t t2 with
    | false=>finMix t k off n t2 l2 m K
    | true=>memK m k fun b=>match b with
     | .box _=>False
     | .mp _ _=>False
     | .pm _ _ _=>False
     | .row t' l=>match tyB t' t with
      | false=>False
      | true=>asK t' t2 l fun l=>(off + n ≤ l.length ∧ (l.drop off).take n = l2) ∧ mdelC m k K
  | .top=>K m
  | _=>False
 | .emp _,e,m,K=>match e with
  | .own t2 j o2 n2 c2=>match c2 with
   | some _=>False
   | none=>memK tgt j fun b2=>match b2 with
    | .box _=>False
    | .mp _ _=>False
    | .pm _ _ _=>False
    | .row t3 l2=>asK t3 t2 l2 fun l2=>(n2 = 0 ∧ l2 = []) ∧ match freshB base j m oth with
     | true=>match Nat.beq o2 0 with|true=>msetC m j (.row t2 l2) K|false=>False
     | false=>False
  | .vec _ l2=>l2 = [] ∧ K m
  | .fec _ _ l2=>l2 = [] ∧ K m
  | .emp _=>K m
  | .top=>K m
  | _=>False
 | .lit x,e,m,K=>match e with
  | .lit y=>x = y ∧ K m
  | .top=>K m
  | .bl p q=>match x with
   | .bool b=>((b = true → p) ∧ (b = false → q)) ∧ K m
   | _=>False
  | .own t2 j o2 n2 c2=>match x with
   | .slice none 0 0=>match c2 with
    | some _=>False
    | none=>memK tgt j fun b2=>match b2 with
     | .box _=>False
     | .mp _ _=>False
     | .pm _ _ _=>False
     | .row t3 l2=>asK t3 t2 l2 fun l2=>(n2 = 0 ∧ l2 = []) ∧ match freshB base j m oth with
      | true=>match Nat.beq o2 0 with|true=>msetC m j (.row t2 l2) K|false=>False
      | false=>False
   | _=>False
  | .vec _ l2=>match x with
   | .slice none 0 _=>l2 = [] ∧ K m
   | _=>False
  | .fec _ _ l2=>match x with
   | .slice none 0 _=>l2 = [] ∧ K m
   | _=>False
  | .emp _=>match x with
   | .slice none 0 0=>K m
   | _=>False
  | .tt=>x = .bool true ∧ K m
  | .ff=>x = .bool false ∧ K m
  | _=>False
 | .vec t l,e,m,K=>match e with
  | .vec t2 l2=>asK t t2 l fun l=>l = l2 ∧ K m
  | .top=>K m
  | _=>False
 | .fec j t l,e,m,K=>match e with
  | .fec j2 t2 l2=>j = j2 ∧ asK t t2 l fun l=>l = l2 ∧ K m
  | .top=>K m
  | _=>False
 | .tt,e,m,K=>match e with
  | .tt=>K m
  | .lit y=>y = .bool true ∧ K m
  | .bl p _=>p ∧ K m
  | .top=>K m
  | _=>False
 | .ff,e,m,K=>match e with
  | .ff=>K m
  | .lit y=>y = .bool false ∧ K m
  | .bl _ q=>q ∧ K m
  | .top=>K m
  | _=>False
 | .bl p q,e,m,K=>match e with
  | .lit y=>match y with
   | .bool b=>((p → b = true) ∧ (q → b = false)) ∧ K m
   | _=>False
  | .bl p' q'=>((p → p') ∧ (q → q')) ∧ K m
  | .top=>K m
  | _=>False
 | .ptr k o,e,m,K=>match e with
  | .ptr k2 o2=>match Nat.beq k k2 with
   | true=>match Nat.beq o o2 with|true=>K m|false=>False
   | false=>False
  | .top=>K m
  | _=>False
 | .agg cs,e,m,K=>match e with
  | .agg es=>finL base tgt oth cs es m K
  | .top=>K m
  | _=>False
 | .tup cs,e,m,K=>match e with
  | .tup es=>finL base tgt oth cs es m K
  | .top=>K m
  | _=>False
 | v,e,m,K=>match e with
  | .top=>K m
  | e=>v = e ∧ K m
def finL (base : Nat) (tgt : Mem) (oth : List AV) : List AV → List AV → Mem → (Mem → Prop) → Prop
 | [],es,m,K=>match es with
  | []=>K m
  | _=>False
 | c :: r,es,m,K=>match es with
  | e :: es=>finV base tgt (r ++ oth) c e m fun m=>finL base tgt (e :: oth) r es m K
  | []=>False
end
def FinOk (base : Nat) (oth : List AV) (m m2 : Mem) (V : World → G → Nat → Prop) (V' : World → G → Nat → Prop) : Prop:=
 (∀ k cs,mget m k = some (.box cs) → ∃ cs',mget m2 k = some (.box cs')) ∧
 ∀ (w : World) (g : G) (lim : Nat),MSim w g lim (mget m) → ∃ g2,MSim w g2 lim (mget m2) ∧ LeG base g g2 ∧ (V w g lim → V' w g2 lim) ∧
  (∀ (u : AV) (y : Value),u ∈ oth → Rep w g lim u y → Rep w g2 lim u y) ∧ ∀ k cs,mget m k = some (.box cs) → g2.be k = g.be k ∧ g2.sz k = g.sz k
theorem FinOk.same {base : Nat} {oth : List AV} {m : Mem} {V V' : World → G → Nat → Prop} (h : ∀ w g lim,V w g lim → V' w g lim) : FinOk base oth m m V V':=
 ⟨fun _ cs h=>⟨cs,h⟩,fun w g lim hm=>⟨g,hm,LeG.refl base g,h w g lim,fun _ _ _ h=>h,fun _ _ _=>⟨rfl,rfl⟩⟩⟩
theorem menL_mem {k : Nat} {l : List AV} (h : menL k l = false) {u : AV} (hu : u ∈ l) : men k u = false:=by
 cases hm : men k u with
 | false=>rfl
 | true =>
  obtain ⟨i,hi⟩:=List.getElem?_of_mem hu
  rw [menL_get hi hm] at h;cases h
theorem MSim.cut {w : World} {g : G} {lim : Nat} {m : Nat → Option Blk} (h : MSim w g lim m) (k : Nat) {t : Ty} {l : List (El t)} (hk : m k = some (.row t l)) (n : Nat) : MSim w g lim (Eng.put m k (some (.row t (l.take n)))):=by
 refine ⟨fun j=>?_,h.lt,h.nro,h.inj,fun j b hb=>?_,h.rolt,h.nof,h.fj⟩
 ·by_cases hjk : k = j
  ·subst hjk;simp [Eng.put,(h.al k).2 (by simp [hk])]
  ·simp [Eng.put,hjk,h.al j]
 ·by_cases hjk : k = j
  ·subst hjk;rw [put_self] at hb;cases hb
   rcases h.blk k _ hk with ⟨h0,e⟩|⟨h0,c,ty,h1,h2,h3,h4⟩
   ·exact .inl ⟨h0,by rw [e];simp⟩
   ·refine .inr ⟨h0,c,ty,h1,h2,?_,fun i a x hi hx=>h4 i a x ?_ hx⟩
    ·rw [flat_take,List.length_take];omega
    ·rw [flat_take,List.getElem?_take] at hi
     split at hi
     ·exact hi
     ·cases hi
  ·rw [put_ne _ _ hjk] at hb;exact h.blk j b hb
theorem fin_own {base : Nat} {oth : List AV} {m m2 : Mem} {t : Ty} {k j n : Nat} {c : Option Nat} {l : List (El t)} (hb : mget m k = some (.row t l))
  (hj : (k = j ∧ mget m2 = put (mget m) j (some (.row t (l.take n)))) ∨ (freshB base j m oth = true ∧ mget m2 = put (put (mget m) k none) j (some (.row t (l.take n))))) (x : Value) :
  FinOk base oth m m2 (fun w g lim=>Rep w g lim (.own t k 0 n c) x) (fun w g lim=>Rep w g lim (.own t j 0 n none) x):=by
 refine ⟨fun i cs hi=>⟨cs,?_⟩,?_⟩
 ·have hik : k ≠ i:=fun e=>by rw [e,hi] at hb;cases hb
  rcases hj with ⟨rfl,e⟩|⟨hf,e⟩
  ·rw [e,put_ne _ _ hik];exact hi
  ·obtain ⟨f1,f2,f3,f4,f5⟩:=freshB_ok hf
   rw [e,put_ne _ _ (fun e=>by rw [e,hi] at f3;cases f3),put_ne _ _ hik];exact hi
 intro w g lim hm
 have hc:=hm.cut k hb n
 rcases hj with ⟨rfl,e⟩|⟨hf,e⟩
 ·rw [e]
  exact ⟨g,hc,LeG.refl base g,fun h=>Le.cap _ _ _ _ h,fun _ _ _ h=>h,fun _ _ _=>⟨rfl,rfl⟩⟩
 ·obtain ⟨f1,f2,f3,f4,f5⟩:=freshB_ok hf
  have hren:=hc.ren (j:=j) (.inr f1) (k:=k) (bl:=.row t (l.take n)) (put_self _ _ _) (fun i b hbi=>by
   simp only [put] at hbi
   split at hbi
   ·cases hbi;rfl
   ·exact f4 i b hbi)
  have e2 : put (put (put (mget m) k (some (.row t (l.take n)))) k none) j (some (.row t (l.take n))) = mget m2:=by
   rw [e];funext i;simp only [put];split
   ·rfl
   ·split<;>rfl
  rw [e2] at hren
  refine ⟨g.ren k j,hren,LeG.ren f2,fun h=>?_,fun u y hu hr=>?_,fun i cs hi=>?_⟩
  ·have hal : g.al k:=(hm.al k).2 (by simp [hb])
   cases h with
   | own _ _ _ _ b cap _ hk hcc hc2 hh =>
    obtain ⟨rfl,h9⟩:=hh hal
    exact .own t j 0 n _ cap none (.inr f1) hcc (fun n h=>by cases h) fun _=>⟨by simp [G.ren,G.bind],by simp [G.ren,G.bind,G.kill];simpa using h9⟩
   | ownE _ _ _ _ ad hk hcc=>exact .ownE t j 0 none ad (.inr f1) (fun n h=>by cases h)
  ·have:=(RepL.ren (w:=w) (g:=g) (lim:=lim) (k:=k) (j:=j) (f:=[u]) (xs:=#[y]) ⟨rfl,fun i c x hc hx=>by
    cases i with
    | zero=>simp at hc hx;subst hc;subst hx;exact hr
    | succ i=>simp at hc⟩ (by simp only [menL];rw [menL_mem f5 hu]))
   exact this.2 0 u y (by simp) (by simp)
  ·have hij : i ≠ j:=fun e=>by rw [e,f3] at hi;cases hi
   exact ⟨by simp [G.ren,G.bind,G.kill,hij],by simp [G.ren,G.bind,G.kill,hij]⟩
theorem fin_birth {base : Nat} {oth : List AV} {m m2 : Mem} {t : Ty} {j : Nat} (hf : freshB base j m oth = true) (e : mget m2 = put (mget m) j (some (.row t []))) (ad : Option Addr) (V : World → G → Nat → Prop) :
  FinOk base oth m m2 V (fun w g lim=>Rep w g lim (.own t j 0 0 none) (.slice ad 0 0)):=by
 obtain ⟨f1,f2,f3,f4,f5⟩:=freshB_ok hf
 refine ⟨fun i cs hi=>⟨cs,?_⟩,?_⟩
 ·rw [e,put_ne _ _ (fun e=>by rw [e,hi] at f3;cases f3)];exact hi
 intro w g lim hm
 have hb:=hm.birth t (.inr f1) f4
 rw [← e] at hb
 refine ⟨g.bind j 0 0,hb,LeG.bind base g f2 _ _,fun _=>.ownE t j 0 none ad (.inr f1) (fun n h=>by cases h),fun u y hu hr=>hr.bind (menL_mem f5 hu) fun _ _=>rfl,fun i cs hi=>?_⟩
 have hij : i ≠ j:=fun e=>by rw [e,f3] at hi;cases hi
 exact ⟨by simp [G.bind,hij],by simp [G.bind,hij]⟩
theorem fin_vec {base : Nat} {oth : List AV} {m m2 : Mem} {t : Ty} {k off n : Nat} {c : Option Nat} {l : List (El t)} (hb : mget m k = some (.row t l)) (hl : off + n ≤ l.length)
  (e : mget m2 = put (mget m) k none) (x : Value) :
  FinOk base oth m m2 (fun w g lim=>Rep w g lim (.own t k off n c) x) (fun w g lim=>Rep w g lim (.vec t ((l.drop off).take n)) x):=by
 refine ⟨fun i cs hi=>⟨cs,?_⟩,?_⟩
 ·rw [e,put_ne _ _ (fun e=>by rw [e,hi] at hb;cases hb)];exact hi
 intro w g lim hm
 have hal : g.al k:=(hm.al k).2 (by simp [hb])
 have hf:=hm.freeze hal
 rw [← e] at hf
 exact ⟨g.freeze k,hf,LeG.freeze base g k,fun h=>h.toVec hm hb hl,fun u y _ hr=>hr.freeze k,fun _ _ _=>⟨rfl,rfl⟩⟩
theorem fin_fec {base : Nat} {oth : List AV} {m m2 : Mem} {t : Ty} {k off n : Nat} {c : Option Nat} {l : List (El t)} (hb : mget m k = some (.row t l)) (hl : off + n ≤ l.length)
  (e : mget m2 = put (mget m) k none) (x : Value) :
  FinOk base oth m m2 (fun w g lim=>Rep w g lim (.own t k off n c) x) (fun w g lim=>Rep w g lim (.fec false t ((l.drop off).take n)) x):=by
 refine ⟨fun i cs hi=>⟨cs,?_⟩,?_⟩
 ·rw [e,put_ne _ _ (fun e=>by rw [e,hi] at hb;cases hb)];exact hi
 intro w g lim hm
 have hal : g.al k:=(hm.al k).2 (by simp [hb])
 have hf:=hm.frzF hal hb (!leafB t)
 rw [← e] at hf
 exact ⟨g.frzF k (!leafB t),hf,LeG.frzF base g k _,fun h=>h.toFec hm hb hl,fun u y _ hr=>hr.frzF k _,fun _ _ _=>⟨rfl,rfl⟩⟩
theorem flat_mix (l : List Box) : flat .boxM (l.map fun b=>(true,b)) = flat .boxF l:=by
 unfold flat
 rw [List.flatMap_map]
 rfl
theorem Rep.mix {w : World} {g : G} {lim : Nat} {l : List Box} {x : Value} (h : Rep w g lim (.vec .boxM (l.map fun b=>(true,b))) x) : Rep w g lim (.vec .boxF l) x:=by
 generalize hL : (l.map fun b=>(true,b)) = L at h
 cases h with
 | vecE _ a cap =>
  have : l = []:=List.map_eq_nil_iff.1 hL
  subst this;exact .vecE _ a cap
 | vec _ _ b o cap xs hc hr hw h =>
  subst hL
  rw [flat_mix] at hw h
  have hlen : (l.map fun b=>(true,b)).length = l.length:=by simp
  rw [hlen]
  exact .vec .boxF l b o cap xs (by rw [← hlen];exact hc) hr hw h
theorem own_csz {w : World} {g : G} {lim : Nat} {t t' : Ty} {k off n : Nat} {c : Option Nat} {x : Value} (hc : csz t = csz t') (h : Rep w g lim (.own t k off n c) x) : Rep w g lim (.own t' k off n c) x:=by
 cases h with
 | own _ _ _ _ b cap _ hk hc1 hcc h =>
  rw [hc]
  exact .own t' k off n b cap c hk hc1 hcc fun ha=>by rw [← hc];exact h ha
 | ownE _ _ _ _ ad hk hcc=>exact .ownE t' k off c ad hk hcc
theorem fin_mix {base : Nat} {oth : List AV} {m m2 : Mem} {t : Ty} {k off n : Nat} {c : Option Nat} {l : List (El .boxM)} {l2 : List Box} (hb : mget m k = some (.row .boxM l)) (hl : off + n ≤ l.length) (ht : csz t = 2)
  (h2 : (l.drop off).take n = l2.map fun b=>(true,b)) (e : mget m2 = put (mget m) k none) (x : Value) :
  FinOk base oth m m2 (fun w g lim=>Rep w g lim (.own t k off n c) x) (fun w g lim=>Rep w g lim (.vec .boxF l2) x):=by
 obtain ⟨q1,q2⟩:=fin_vec (base:=base) (oth:=oth) (c:=c) hb hl e x
 refine ⟨q1,fun w g lim hm=>?_⟩
 obtain ⟨g2,a1,a2,a3,a4⟩:=q2 w g lim hm
 refine ⟨g2,a1,a2,fun h=>?_,a4⟩
 have h3:=a3 (own_csz (t':=.boxM) ht h)
 rw [h2] at h3
 exact h3.mix
theorem Rep.mixF {w : World} {g : G} {lim : Nat} {l : List Box} {x : Value} (h : Rep w g lim (.fec false .boxM (l.map fun b=>(true,b))) x) : Rep w g lim (.fec false .boxF l) x:=by
 generalize hL : (l.map fun b=>(true,b)) = L at h
 generalize hj : false = j at h
 cases h with
 | fecE _ _ a cap =>
  have : l = []:=List.map_eq_nil_iff.1 hL
  subst this;subst hj;exact .fecE _ _ a cap
 | fec _ _ b o cap xs hc hr hg hw h =>
  subst hL
  rw [flat_mix] at hw h
  have hlen : (l.map fun b=>(true,b)).length = l.length:=by simp
  rw [hlen]
  exact .fec .boxF l b o cap xs (by rw [← hlen];exact hc) hr hg hw h
 | jec _ _ _ _ _ _ _ _ _=>cases hj
theorem fin_mixF {base : Nat} {oth : List AV} {m m2 : Mem} {t : Ty} {k off n : Nat} {c : Option Nat} {l : List (El .boxM)} {l2 : List Box} (hb : mget m k = some (.row .boxM l)) (hl : off + n ≤ l.length) (ht : csz t = 2)
  (h2 : (l.drop off).take n = l2.map fun b=>(true,b)) (e : mget m2 = put (mget m) k none) (x : Value) :
  FinOk base oth m m2 (fun w g lim=>Rep w g lim (.own t k off n c) x) (fun w g lim=>Rep w g lim (.fec false .boxF l2) x):=by
 obtain ⟨q1,q2⟩:=fin_fec (base:=base) (oth:=oth) (c:=c) hb hl e x
 refine ⟨q1,fun w g lim hm=>?_⟩
 obtain ⟨g2,a1,a2,a3,a4⟩:=q2 w g lim hm
 refine ⟨g2,a1,a2,fun h=>?_,a4⟩
 have h3:=a3 (own_csz (t':=.boxM) ht h)
 rw [h2] at h3
 exact h3.mixF
theorem FinOk.repv {base : Nat} {oth : List AV} {m : Mem} {v e : AV} (h : Le v e) (x : Value) : FinOk base oth m m (fun w g lim=>Rep w g lim v x) (fun w g lim=>Rep w g lim e x):=
 FinOk.same fun _ _ _ hr=>h _ _ _ _ hr
theorem nbz {a : Nat} (h : Nat.beq a 0 = true) : a = 0:=nbt.1 h
theorem fin_nil {base : Nat} {tgt : Mem} {oth : List AV} {m : Mem} {t2 : Ty} {j o2 n2 : Nat} {K : Mem → Prop}
  (h : memK tgt j fun b2=>match b2 with
   | .box _=>False
   | .mp _ _=>False
   | .pm _ _ _=>False
   | .row t3 l2=>asK t3 t2 l2 fun l2=>(n2 = 0 ∧ l2 = []) ∧ match freshB base j m oth with
    | true=>match Nat.beq o2 0 with|true=>msetC m j (.row t2 l2) K|false=>False
    | false=>False) :
  ∃ m2,K m2 ∧ ∀ (ad : Option Addr) (V : World → G → Nat → Prop),FinOk base oth m m2 V (fun w g lim=>Rep w g lim (.own t2 j o2 n2 none) (.slice ad 0 0)):=by
 obtain ⟨b2,hb2,ha⟩:=memK_ok h
 clear h
 cases b2 with
 | box _=>exact ha.elim
 | mp _ _=>exact ha.elim
 | pm _ _ _=>exact ha.elim
 | row t3 l2 =>
  simp only at ha
  obtain ⟨e1,hc⟩:=asK_ok ha
  clear ha
  subst e1
  obtain ⟨⟨rfl,e2⟩,hd⟩:=hc
  cases hf : freshB base j m oth with
  | false=>rw [hf] at hd;exact hd.elim
  | true =>
   rw [hf] at hd
   simp only at hd
   cases ho : Nat.beq o2 0 with
   | false=>rw [ho] at hd;exact hd.elim
   | true =>
    rw [ho] at hd
    have:=nbz ho
    subst this
    simp only at hd
    rw [msetC_eq] at hd
    have e3 : l2 = []:=e2
    subst e3
    exact ⟨_,hd,fun ad V=>fin_birth hf (by rw [mget_mset']) ad V⟩
mutual
theorem finV_ok {base : Nat} {tgt : Mem} : ∀ (v : AV) {oth : List AV} {e : AV} {m : Mem} {K : Mem → Prop},finV base tgt oth v e m K →
  ∃ m2,K m2 ∧ ∀ x,FinOk base oth m m2 (fun w g lim=>Rep w g lim v x) (fun w g lim=>Rep w g lim e x)
 | .own t k off n c,oth,e,m,K,h=>by
  cases e<;>simp only [finV] at h<;>try exact h.elim
  case top=>exact ⟨m,h,fun x=>FinOk.same fun _ _ _ _=>.top x⟩
  case own t2 j o2 n2 c2 =>
   cases c2 with
   | some _=>exact h.elim
   | none =>
   simp only at h
   cases h1 : Nat.beq o2 0 with
   | false=>rw [h1] at h;exact h.elim
   | true =>
   rw [h1] at h
   cases h2 : Nat.beq off 0 with
   | false=>rw [h2] at h;exact h.elim
   | true =>
   rw [h2] at h
   cases h3 : tyB t t2 with
   | false=>rw [h3] at h;exact h.elim
   | true =>
   rw [h3] at h
   have e1:=nbz h1;have e2:=nbz h2;have e3:=tyB_ok h3
   subst e1;subst e2;subst e3
   simp only at h
   obtain ⟨b,hb,ha⟩:=memK_ok h
   clear h
   cases b with
   | box _=>exact ha.elim
   | mp _ _=>exact ha.elim
   | pm _ _ _=>exact ha.elim
   | row t' l =>
   simp only at ha
   cases h4 : tyB t' t with
   | false=>rw [h4] at ha;exact ha.elim
   | true =>
   rw [h4] at ha
   have e4:=tyB_ok h4
   subst e4
   simp only at ha
   obtain ⟨b2,hb2,hc⟩:=memK_ok ha
   clear ha
   cases b2 with
   | box _=>exact hc.elim
   | mp _ _=>exact hc.elim
   | pm _ _ _=>exact hc.elim
   | row t3 l2 =>
   simp only at hc
   obtain ⟨e5,hd⟩:=asK_ok hc
   clear hc
   obtain ⟨e6,he⟩:=asK_ok hd
   clear hd
   subst e6
   obtain ⟨⟨rfl,hle,hl⟩,hf⟩:=he
   have hl' : l.take n = l2:=hl
   subst hl'
   cases h5 : Nat.beq k j with
   | true =>
    rw [h5] at hf
    have e7:=nbt.1 h5
    subst e7
    simp only at hf
    rw [msetC_eq] at hf
    exact ⟨_,hf,fun x=>fin_own hb (.inl ⟨rfl,by rw [mget_mset']⟩) x⟩
   | false =>
    rw [h5] at hf
    simp only at hf
    cases h6 : freshB base j m oth with
    | false=>rw [h6] at hf;exact hf.elim
    | true =>
     rw [h6] at hf
     simp only at hf
     rw [mdelC_eq,msetC_eq] at hf
     exact ⟨_,hf,fun x=>fin_own hb (.inr ⟨h6,by rw [mget_mset',mget_mdel']⟩) x⟩
  case fec j2 t2 l2 =>
   cases j2 with
   | true=>exact h.elim
   | false =>
   simp only at h
   cases h3 : tyB t t2 with
   | false =>
    rw [h3] at h
    simp only [finMix] at h
    split at h
    case h_2=>exact h.elim
    cases hc2 : Nat.beq (csz t) 2 with
    | false=>rw [hc2] at h;exact h.elim
    | true =>
    rw [hc2] at h
    simp only at h
    obtain ⟨b,hb,ha⟩:=memK_ok h
    clear h
    cases b with
    | box _=>exact ha.elim
    | mp _ _=>exact ha.elim
    | pm _ _ _=>exact ha.elim
    | row t' l =>
    simp only at ha
    split at ha
    case h_2=>exact ha.elim
    obtain ⟨⟨hle,hl⟩,hc⟩:=ha
    rw [mdelC_eq] at hc
    exact ⟨_,hc,fun x=>fin_mixF hb hle (nbt.1 hc2) hl (by rw [mget_mdel']) x⟩
   | true =>
   rw [h3] at h
   simp only at h
   obtain ⟨b,hb,ha⟩:=memK_ok h
   clear h
   cases b with
   | box _=>exact ha.elim
   | mp _ _=>exact ha.elim
   | pm _ _ _=>exact ha.elim
   | row t' l =>
   simp only at ha
   cases h4 : tyB t' t with
   | false=>rw [h4] at ha;exact ha.elim
   | true =>
   rw [h4] at ha
   have e4:=tyB_ok h4
   subst e4
   simp only at ha
   obtain ⟨e5,⟨hle,hl⟩,hc⟩:=asK_ok ha
   clear ha
   subst e5
   have hl' : (l.drop off).take n = l2:=hl
   subst hl'
   rw [mdelC_eq] at hc
   exact ⟨_,hc,fun x=>fin_fec hb hle (by rw [mget_mdel']) x⟩
  case vec t2 l2 =>
   cases h3 : tyB t t2 with
   | false =>
    rw [h3] at h
    simp only [finMix] at h
    split at h
    case h_2=>exact h.elim
    cases hc2 : Nat.beq (csz t) 2 with
    | false=>rw [hc2] at h;exact h.elim
    | true =>
    rw [hc2] at h
    simp only at h
    obtain ⟨b,hb,ha⟩:=memK_ok h
    clear h
    cases b with
    | box _=>exact ha.elim
    | mp _ _=>exact ha.elim
    | pm _ _ _=>exact ha.elim
    | row t' l =>
    simp only at ha
    split at ha
    case h_2=>exact ha.elim
    obtain ⟨⟨hle,hl⟩,hc⟩:=ha
    rw [mdelC_eq] at hc
    exact ⟨_,hc,fun x=>fin_mix hb hle (nbt.1 hc2) hl (by rw [mget_mdel']) x⟩
   | true =>
   rw [h3] at h
   have e3:=tyB_ok h3
   subst e3
   simp only at h
   obtain ⟨b,hb,ha⟩:=memK_ok h
   clear h
   cases b with
   | box _=>exact ha.elim
   | mp _ _=>exact ha.elim
   | pm _ _ _=>exact ha.elim
   | row t' l =>
   simp only at ha
   cases h4 : tyB t' t with
   | false=>rw [h4] at ha;exact ha.elim
   | true =>
   rw [h4] at ha
   have e4:=tyB_ok h4
   subst e4
   simp only at ha
   obtain ⟨e5,⟨hle,hl⟩,hc⟩:=asK_ok ha
   clear ha
   have hl' : (l.drop off).take n = l2:=hl
   subst hl'
   rw [mdelC_eq] at hc
   exact ⟨_,hc,fun x=>fin_vec hb hle (by rw [mget_mdel']) x⟩
 | .emp t,oth,e,m,K,h=>by
  cases e<;>simp only [finV] at h<;>try exact h.elim
  case top=>exact ⟨m,h,fun x=>FinOk.same fun _ _ _ _=>.top x⟩
  case emp t2=>exact ⟨m,h,fun x=>FinOk.repv (fun _ _ _ _ hr=>by cases hr;exact .emp _ _) x⟩
  case vec t2 l2 =>
   obtain ⟨rfl,h⟩:=h
   exact ⟨m,h,fun x=>FinOk.repv (fun _ _ _ _ hr=>by cases hr;exact .vecE _ _ _) x⟩
  case fec j2 t2 l2 =>
   obtain ⟨rfl,h⟩:=h
   exact ⟨m,h,fun x=>FinOk.repv (fun _ _ _ _ hr=>by cases hr;exact .fecE _ _ _ _) x⟩
  case own t2 j o2 n2 c2 =>
   cases c2 with
   | some _=>exact h.elim
   | none =>
    obtain ⟨m2,hK,hh⟩:=fin_nil h
    refine ⟨m2,hK,fun x=>⟨(hh none (fun _ _ _=>True)).1,fun w g lim hm=>?_⟩⟩
    obtain ⟨g2,q1,q2,q3,q4⟩:=(hh none (fun _ _ _=>True)).2 w g lim hm
    by_cases hx : ∃ ad,x = .slice ad 0 0
    ·obtain ⟨ad,rfl⟩:=hx
     exact (hh ad (fun w g lim=>Rep w g lim (.emp t) (.slice ad 0 0))).2 w g lim hm
    ·exact ⟨g2,q1,q2,fun hr=>by cases hr with|emp _ ad=>exact absurd ⟨ad,rfl⟩ hx,q4⟩
 | .lit x0,oth,e,m,K,h=>by
  cases e<;>simp only [finV] at h<;>try exact h.elim
  case top=>exact ⟨m,h,fun x=>FinOk.same fun _ _ _ _=>.top x⟩
  case lit y =>
   obtain ⟨rfl,h⟩:=h
   exact ⟨m,h,fun x=>FinOk.repv (Le.refl _) x⟩
  case tt =>
   obtain ⟨rfl,h⟩:=h
   exact ⟨m,h,fun x=>FinOk.repv (fun _ _ _ _ hr=>by cases hr;exact .tt) x⟩
  case ff =>
   obtain ⟨rfl,h⟩:=h
   exact ⟨m,h,fun x=>FinOk.repv (fun _ _ _ _ hr=>by cases hr;exact .ff) x⟩
  case bl p q =>
   split at h
   ·obtain ⟨⟨h1,h2⟩,h⟩:=h
    exact ⟨m,h,fun x=>FinOk.repv (fun _ _ _ _ hr=>by cases hr;exact .bl _ _ _ h1 h2) x⟩
   ·exact h.elim
  case emp t2 =>
   split at h
   ·exact ⟨m,h,fun x=>FinOk.repv (fun _ _ _ _ hr=>by cases hr;exact .emp _ _) x⟩
   ·exact h.elim
  case vec t2 l2 =>
   split at h
   ·obtain ⟨rfl,h⟩:=h
    exact ⟨m,h,fun x=>FinOk.repv (fun _ _ _ _ hr=>by cases hr;exact .vecE _ _ _) x⟩
   ·exact h.elim
  case fec j2 t2 l2 =>
   split at h
   ·obtain ⟨rfl,h⟩:=h
    exact ⟨m,h,fun x=>FinOk.repv (fun _ _ _ _ hr=>by cases hr;exact .fecE _ _ _ _) x⟩
   ·exact h.elim
  case own t2 j o2 n2 c2 =>
   split at h
   ·cases c2 with
    | some _=>exact h.elim
    | none =>
     obtain ⟨m2,hK,hh⟩:=fin_nil h
     refine ⟨m2,hK,fun x=>⟨(hh none (fun _ _ _=>True)).1,fun w g lim hm=>?_⟩⟩
     obtain ⟨g2,q1,q2,q3,q4⟩:=(hh none (fun w g lim=>Rep w g lim (.lit (.slice none 0 0)) x)).2 w g lim hm
     exact ⟨g2,q1,q2,fun hr=>by have:=q3 hr;cases hr;exact this,q4⟩
   ·exact h.elim
 | .vec t l,oth,e,m,K,h=>by
  cases e<;>simp only [finV] at h<;>try exact h.elim
  case top=>exact ⟨m,h,fun x=>FinOk.same fun _ _ _ _=>.top x⟩
  case vec t2 l2 =>
   obtain ⟨e1,hl,hK⟩:=asK_ok h
   clear h
   subst e1
   have hl' : l = l2:=hl
   subst hl'
   exact ⟨m,hK,fun x=>FinOk.repv (Le.refl _) x⟩
 | .fec j t l,oth,e,m,K,h=>by
  cases e<;>simp only [finV] at h<;>try exact h.elim
  case top=>exact ⟨m,h,fun x=>FinOk.same fun _ _ _ _=>.top x⟩
  case fec j2 t2 l2 =>
   obtain ⟨rfl,h⟩:=h
   obtain ⟨e1,hl,hK⟩:=asK_ok h
   clear h
   subst e1
   have hl' : l = l2:=hl
   subst hl'
   exact ⟨m,hK,fun x=>FinOk.repv (Le.refl _) x⟩
 | .sl,oth,e,m,K,h=>by
  cases e<;>simp only [finV] at h<;>first|exact ⟨m,h,fun x=>FinOk.same fun _ _ _ _=>.top x⟩|(obtain ⟨e1,h⟩:=h;rw [← e1];exact ⟨m,h,fun x=>FinOk.repv (Le.refl _) x⟩)|exact ⟨m,h,fun x=>FinOk.repv (Le.refl _) x⟩|(obtain ⟨_,h⟩:=h;exact ⟨m,h,fun x=>FinOk.repv (Le.refl _) x⟩)
 | .fptr _ _ _ _,oth,e,m,K,h=>by
  cases e<;>simp only [finV] at h<;>first|exact ⟨m,h,fun x=>FinOk.same fun _ _ _ _=>.top x⟩|(obtain ⟨e1,h⟩:=h;rw [← e1];exact ⟨m,h,fun x=>FinOk.repv (Le.refl _) x⟩)
 | .tt,oth,e,m,K,h=>by
  cases e<;>simp only [finV] at h<;>try exact h.elim
  case top=>exact ⟨m,h,fun x=>FinOk.same fun _ _ _ _=>.top x⟩
  case tt=>exact ⟨m,h,fun x=>FinOk.repv (Le.refl _) x⟩
  case lit y =>
   obtain ⟨rfl,h⟩:=h
   exact ⟨m,h,fun x=>FinOk.repv (fun _ _ _ _ hr=>by cases hr;exact .lit _) x⟩
  case bl p q =>
   exact ⟨m,h.2,fun x=>FinOk.repv (fun _ _ _ _ hr=>by cases hr;exact .bl _ _ _ (fun _=>h.1) (fun h=>by cases h)) x⟩
 | .ff,oth,e,m,K,h=>by
  cases e<;>simp only [finV] at h<;>try exact h.elim
  case top=>exact ⟨m,h,fun x=>FinOk.same fun _ _ _ _=>.top x⟩
  case ff=>exact ⟨m,h,fun x=>FinOk.repv (Le.refl _) x⟩
  case lit y =>
   obtain ⟨rfl,h⟩:=h
   exact ⟨m,h,fun x=>FinOk.repv (fun _ _ _ _ hr=>by cases hr;exact .lit _) x⟩
  case bl p q =>
   exact ⟨m,h.2,fun x=>FinOk.repv (fun _ _ _ _ hr=>by cases hr;exact .bl _ _ _ (fun h=>by cases h) (fun _=>h.1)) x⟩
 | .bl p q,oth,e,m,K,h=>by
  cases e<;>simp only [finV] at h<;>try exact h.elim
  case top=>exact ⟨m,h,fun x=>FinOk.same fun _ _ _ _=>.top x⟩
  case lit y =>
   split at h
   ·rename_i b
    obtain ⟨⟨h1,h2⟩,h⟩:=h
    refine ⟨m,h,fun x=>FinOk.repv (fun _ _ _ _ hr=>?_) x⟩
    cases hr with
    | bl _ _ b2 hp hq =>
     cases b2 with
     | true=>rw [h1 (hp rfl)];exact .lit _
     | false=>rw [h2 (hq rfl)];exact .lit _
   ·exact h.elim
  case bl p' q' =>
   obtain ⟨⟨h1,h2⟩,h⟩:=h
   exact ⟨m,h,fun x=>FinOk.repv (fun _ _ _ _ hr=>by cases hr with|bl _ _ b2 hp hq=>exact .bl _ _ _ (fun e=>h1 (hp e)) (fun e=>h2 (hq e))) x⟩
 | .ptr k o,oth,e,m,K,h=>by
  cases e<;>simp only [finV] at h<;>try exact h.elim
  case top=>exact ⟨m,h,fun x=>FinOk.same fun _ _ _ _=>.top x⟩
  case ptr k2 o2 =>
   cases h1 : Nat.beq k k2 with
   | false=>rw [h1] at h;exact h.elim
   | true =>
   rw [h1] at h
   simp only at h
   cases h2 : Nat.beq o o2 with
   | false=>rw [h2] at h;exact h.elim
   | true =>
   rw [h2] at h
   have e1:=nbt.1 h1;have e2:=nbt.1 h2
   subst e1;subst e2
   exact ⟨m,h,fun x=>FinOk.repv (Le.refl _) x⟩
 | .agg cs,oth,e,m,K,h=>by
  cases e<;>simp only [finV] at h<;>try exact h.elim
  case top=>exact ⟨m,h,fun x=>FinOk.same fun _ _ _ _=>.top x⟩
  case agg es =>
   obtain ⟨m2,hK,hh⟩:=finL_ok cs h
   refine ⟨m2,hK,fun x=>⟨(hh #[]).1,fun w g lim hm=>?_⟩⟩
   by_cases hx : ∃ xs,x = .agg xs
   ·obtain ⟨xs,rfl⟩:=hx
    obtain ⟨g2,q1,q2,q3,q4⟩:=(hh xs).2 w g lim hm
    exact ⟨g2,q1,q2,fun hr=>by cases hr with|agg _ _ hl hx=>have:=q3 ⟨hl,hx⟩;exact .agg _ _ this.1 this.2,q4⟩
   ·obtain ⟨g2,q1,q2,q3,q4⟩:=(hh #[]).2 w g lim hm
    exact ⟨g2,q1,q2,fun hr=>by cases hr with|agg _ xs hl hh=>exact absurd ⟨xs,rfl⟩ hx,q4⟩
 | .tup cs,oth,e,m,K,h=>by
  cases e<;>simp only [finV] at h<;>try exact h.elim
  case top=>exact ⟨m,h,fun x=>FinOk.same fun _ _ _ _=>.top x⟩
  case tup es =>
   obtain ⟨m2,hK,hh⟩:=finL_ok cs h
   refine ⟨m2,hK,fun x=>⟨(hh #[]).1,fun w g lim hm=>?_⟩⟩
   by_cases hx : ∃ xs,x = .tuple xs
   ·obtain ⟨xs,rfl⟩:=hx
    obtain ⟨g2,q1,q2,q3,q4⟩:=(hh xs).2 w g lim hm
    exact ⟨g2,q1,q2,fun hr=>by cases hr with|tup _ _ hl hx=>have:=q3 ⟨hl,hx⟩;exact .tup _ _ this.1 this.2,q4⟩
   ·obtain ⟨g2,q1,q2,q3,q4⟩:=(hh #[]).2 w g lim hm
    exact ⟨g2,q1,q2,fun hr=>by cases hr with|tup _ xs hl hh=>exact absurd ⟨xs,rfl⟩ hx,q4⟩
 | .top,oth,e,m,K,h=>by
  cases e<;>simp only [finV] at h<;>first|exact ⟨m,h,fun x=>FinOk.same fun _ _ _ _=>.top x⟩|(obtain ⟨e1,h⟩:=h;rw [← e1];exact ⟨m,h,fun x=>FinOk.repv (Le.refl _) x⟩)
 | .rptr _ _ _ _,oth,e,m,K,h=>by
  cases e<;>simp only [finV] at h<;>first|exact ⟨m,h,fun x=>FinOk.same fun _ _ _ _=>.top x⟩|(obtain ⟨e1,h⟩:=h;rw [← e1];exact ⟨m,h,fun x=>FinOk.repv (Le.refl _) x⟩)
 | .mp _,oth,e,m,K,h=>by
  cases e<;>simp only [finV] at h<;>first|exact ⟨m,h,fun x=>FinOk.same fun _ _ _ _=>.top x⟩|(obtain ⟨e1,h⟩:=h;rw [← e1];exact ⟨m,h,fun x=>FinOk.repv (Le.refl _) x⟩)
 | .vptr _ _ _ _,oth,e,m,K,h=>by
  cases e<;>simp only [finV] at h<;>first|exact ⟨m,h,fun x=>FinOk.same fun _ _ _ _=>.top x⟩|(obtain ⟨e1,h⟩:=h;rw [← e1];exact ⟨m,h,fun x=>FinOk.repv (Le.refl _) x⟩)
 | .clo _ _ _,oth,e,m,K,h=>by
  cases e<;>simp only [finV] at h<;>first|exact ⟨m,h,fun x=>FinOk.same fun _ _ _ _=>.top x⟩|(obtain ⟨e1,h⟩:=h;rw [← e1];exact ⟨m,h,fun x=>FinOk.repv (Le.refl _) x⟩)
theorem finL_ok {base : Nat} {tgt : Mem} : ∀ (cs : List AV) {oth es : List AV} {m : Mem} {K : Mem → Prop},finL base tgt oth cs es m K →
  ∃ m2,K m2 ∧ ∀ xs : Array Value,FinOk base oth m m2 (fun w g lim=>RepL w g lim cs xs) (fun w g lim=>RepL w g lim es xs)
 | [],oth,es,m,K,h=>by
  cases es with
  | nil=>exact ⟨m,by simpa [finL] using h,fun xs=>FinOk.same fun _ _ _ h=>h⟩
  | cons _ _=>simp [finL] at h
 | c :: r,oth,es,m,K,h=>by
  cases es with
  | nil=>simp [finL] at h
  | cons e es =>
   simp only [finL] at h
   obtain ⟨m1,ha,h1⟩:=finV_ok c h
   obtain ⟨m2,hK,h2⟩:=finL_ok r ha
   refine ⟨m2,hK,fun xs=>⟨fun k cs hk=>by
    obtain ⟨cs',h3⟩:=(h1 undef).1 k cs hk
    exact (h2 #[]).1 k cs' h3,fun w g lim hm=>?_⟩⟩
   obtain ⟨x0,ys,hxs⟩ : ∃ x0 ys,xs = #[] ∨ xs = (x0 :: ys : List Value).toArray:=by
    cases hx : xs.toList with
    | nil=>exact ⟨undef,[],.inl (by rw [← Array.toArray_toList (xs:=xs),hx])⟩
    | cons x ys=>exact ⟨x,ys,.inr (by rw [← Array.toArray_toList (xs:=xs),hx])⟩
   obtain ⟨g1,p1,p2,p3,p4,p5⟩:=(h1 x0).2 w g lim hm
   obtain ⟨g2,q1,q2,q3,q4,q5⟩:=(h2 ys.toArray).2 w g1 lim p1
   refine ⟨g2,q1,p2.trans q2,fun hr=>?_,fun u y hu hr=>q4 u y (List.mem_cons_of_mem _ hu) (p4 u y (List.mem_append_right _ hu) hr),fun k cs hk=>by
    obtain ⟨cs',h3⟩:=(h1 undef).1 k cs hk
    obtain ⟨a1,a2⟩:=p5 k cs hk
    obtain ⟨b1,b2⟩:=q5 k cs' h3
    exact ⟨b1.trans a1,b2.trans a2⟩⟩
   rcases hxs with rfl|rfl
   ·have:=hr.1;simp at this
   ·have r0:=p3 (hr.2 0 c x0 (by simp) (by simp))
    have r1:=q4 e x0 (by simp) r0
    have rr : RepL w g1 lim r ys.toArray:=⟨by have:=hr.1;simpa using this,fun i c2 x2 hc hx=>p4 c2 x2 (List.mem_append_left _ (List.mem_of_getElem? hc)) (hr.2 (i + 1) c2 x2 (by simpa using hc) (by simpa using hx))⟩
    exact RepL.cons0 r1 (q3 rr)
end
def finM (base : Nat) (tgt : Mem) (oth : List AV) : Mem → Mem → (Mem → Prop) → Prop
 | [],m,K=>K m
 | (k,b) :: r,m,K=>match b with
  | .row t2 l2=>memK m k fun b'=>match b' with
   | .row t l=>asK t t2 l fun l=>l = l2 ∧ finM base tgt oth r m K
   | .box _=>False
   | .mp _ _=>False
   | .pm _ _ _=>False
  | .box es=>memK m k fun b'=>match b' with
   | .row _ _=>False
   | .mp _ _=>False
   | .pm _ _ _=>False
   | .box cs=>finL base tgt oth cs es m fun m=>memK m k fun b2=>match b2 with
    | .row _ _=>False
    | .mp _ _=>False
    | .pm _ _ _=>False
    | .box _=>msetC m k (.box es) fun m=>finM base tgt oth r m K
  | .mp ks es=>memK m k fun b'=>match b' with
   | .row _ _=>False
   | .box _=>False
   | .mp ks' es'=>(ks' = ks ∧ es' = es) ∧ finM base tgt oth r m K
   | .pm _ _ _=>False
  | .pm ik F n=>memK m k fun b'=>match b' with
   | .row _ _=>False
   | .box _=>False
   | .mp _ _=>False
   | .pm ik' F' n'=>(ik' = ik ∧ F' = F ∧ n' = n) ∧ finM base tgt oth r m K
def eqMK (m : Mem) : Mem → Prop
 | []=>True
 | (k,b) :: r=>(memK m k fun b'=>b' = b) ∧ eqMK m r
theorem eqMK_ok {m : Mem} : ∀ {m1 : Mem},eqMK m m1 → ∀ k b,mget m1 k = some b → mget m k = some b
 | [],_,k,b,hb=>by simp [mget] at hb
 | (i,c) :: r,h,k,b,hb=>by
  simp only [mget] at hb
  split at hb
  ·rename_i hi
   cases hb
   have:=nbt.1 hi
   subst this
   obtain ⟨b',h1,h2⟩:=memK_ok h.1
   have h2' : b' = c:=h2
   rw [h1,h2']
  ·exact eqMK_ok h.2 k b hb
theorem FinOk.trans {base : Nat} {oth : List AV} {m m1 m2 : Mem} {V V' V'' : World → G → Nat → Prop} (h : FinOk base oth m m1 V V') (h' : FinOk base oth m1 m2 V' V'') : FinOk base oth m m2 V V'':=by
 refine ⟨fun k cs hk=>by
  obtain ⟨cs',h3⟩:=h.1 k cs hk
  exact h'.1 k cs' h3,fun w g lim hm=>?_⟩
 obtain ⟨g1,p1,p2,p3,p4,p5⟩:=h.2 w g lim hm
 obtain ⟨g2,q1,q2,q3,q4,q5⟩:=h'.2 w g1 lim p1
 refine ⟨g2,q1,p2.trans q2,fun hv=>q3 (p3 hv),fun u y hu hr=>q4 u y hu (p4 u y hu hr),fun k cs hk=>?_⟩
 obtain ⟨cs',h3⟩:=h.1 k cs hk
 obtain ⟨a1,a2⟩:=p5 k cs hk
 obtain ⟨b1,b2⟩:=q5 k cs' h3
 exact ⟨b1.trans a1,b2.trans a2⟩
theorem fin_box {base : Nat} {oth : List AV} {m m1 : Mem} {k : Nat} {cs cs2 es : List AV} (hb : mget m k = some (.box cs)) (hb1 : mget m1 k = some (.box cs2))
  (hh : ∀ xs : Array Value,FinOk base oth m m1 (fun w g lim=>RepL w g lim cs xs) (fun w g lim=>RepL w g lim es xs)) : FinOk base oth m (mset m1 k (.box es)) (fun _ _ _=>True) (fun _ _ _=>True):=by
 refine ⟨fun i ds hi=>?_,fun w g lim hm=>?_⟩
 ·rw [mget_mset]
  by_cases h : k = i
  ·exact ⟨es,by simp [h]⟩
  ·rw [if_neg h];exact (hh #[]).1 i ds hi
 obtain ⟨h0,c,ty,b1,b2,b3,b4⟩:=hm.blk k _ hb
 have hcut : ∀ i,i < cs.length → (c.extract 0 cs.length)[i]? = c[i]?:=fun i hi=>by
  rw [Array.getElem?_extract,if_pos (by omega),Nat.zero_add]
 have hcs : (c.extract 0 cs.length).size = cs.length:=by rw [Array.size_extract];omega
 obtain ⟨g1,p1,p2,p3,p4,p5⟩:=(hh (c.extract 0 cs.length)).2 w g lim hm
 have hr:=p3 ⟨hcs.symm,fun i a x ha hx=>b4 i a x ha (by rw [← hcut i (List.getElem?_eq_some_iff.1 ha).1];exact hx)⟩
 refine ⟨g1,?_,p2,fun _=>trivial,p4,p5⟩
 obtain ⟨e1,e2⟩:=p5 k cs hb
 have hal : g1.al k:=(p1.al k).2 (by simp [hb1])
 have hel : es.length = cs.length:=hr.1.trans hcs
 rw [mget_mset']
 refine p1.write hal (by omega) (.box es) (Nat.le_refl _) (fun _ _ _=>rfl) ⟨by omega,c,ty,by rw [e1];exact b1,by omega,by omega,fun i a x ha hx=>hr.2 i a x ha ?_⟩
 rw [hcut i (by have:=(List.getElem?_eq_some_iff.1 ha).1;omega)];exact hx
theorem finM_ok {base : Nat} {tgt : Mem} {oth : List AV} : ∀ (r : Mem) {m : Mem} {K : Mem → Prop},finM base tgt oth r m K →
  ∃ m2,K m2 ∧ FinOk base oth m m2 (fun _ _ _=>True) (fun _ _ _=>True)
 | [],m,K,h=>⟨m,h,FinOk.same fun _ _ _ h=>h⟩
 | (k,b) :: r,m,K,h=>by
  cases b with
  | row t2 l2 =>
   simp only [finM] at h
   obtain ⟨b',hb,ha⟩:=memK_ok h
   clear h
   cases b' with
   | box _=>exact ha.elim
   | mp _ _=>exact ha.elim
   | pm _ _ _=>exact ha.elim
   | row t l =>
    simp only at ha
    obtain ⟨e,hc⟩:=asK_ok ha
    exact finM_ok r hc.2
  | box es =>
   simp only [finM] at h
   obtain ⟨b',hb,ha⟩:=memK_ok h
   clear h
   cases b' with
   | row _ _=>exact ha.elim
   | mp _ _=>exact ha.elim
   | pm _ _ _=>exact ha.elim
   | box cs =>
    simp only at ha
    obtain ⟨m1,hc,hh⟩:=finL_ok cs ha
    clear ha
    obtain ⟨b2,hb2,hd⟩:=memK_ok hc
    clear hc
    cases b2 with
    | row _ _=>exact hd.elim
    | mp _ _=>exact hd.elim
    | pm _ _ _=>exact hd.elim
    | box cs2 =>
     simp only at hd
     rw [msetC_eq] at hd
     obtain ⟨m2,hK,h2⟩:=finM_ok r hd
     exact ⟨m2,hK,(fin_box hb hb2 hh).trans h2⟩
  | mp ks es =>
   simp only [finM] at h
   obtain ⟨b',hb,ha⟩:=memK_ok h
   clear h
   cases b' with
   | row _ _=>exact ha.elim
   | box _=>exact ha.elim
   | mp ks' es'=>exact finM_ok r ha.2
   | pm _ _ _=>exact ha.elim
  | pm ik F n =>
   simp only [finM] at h
   obtain ⟨b',hb,ha⟩:=memK_ok h
   clear h
   cases b' with
   | row _ _=>exact ha.elim
   | box _=>exact ha.elim
   | mp _ _=>exact ha.elim
   | pm ik' F' n'=>exact finM_ok r ha.2
theorem MSim.only {w : World} {g : G} {lim : Nat} {m m1 : Mem} (h : MSim w g lim (mget m)) (he : ∀ k b,mget m1 k = some b → mget m k = some b) :
  ∃ g',MSim w g' lim (mget m1) ∧ (∀ base,LeG base g g') ∧ ∀ v x,Rep w g lim v x → Rep w g' lim v x:=by
 let g' : G:={ g with al:=fun k=>(mget m1 k).isSome }
 have hal : ∀ k,g'.al k → g.al k:=fun k hk=>by
  obtain ⟨b,hb⟩:=Option.isSome_iff_exists.1 hk
  exact (h.al k).2 (by simp [he k b hb])
 have hrep : ∀ v x,Rep w g lim v x → Rep w g' lim v x:=fun v x hv=>hv.mono ⟨fun _ h=>h,fun _ _=>rfl,.id⟩ (Nat.le_refl _) fun k _ ha=>⟨hal k ha,rfl,rfl⟩
 refine ⟨g',⟨fun k=>Iff.rfl,fun k hk=>h.lt k (hal k hk),fun k hk=>h.nro k (hal k hk),fun i j hi hj=>h.inj i j (hal i hi) (hal j hj),fun k b hb=>?_,h.rolt,fun b hb=>⟨(h.nof b hb).1,(h.nof b hb).2.1,fun k hk=>(h.nof b hb).2.2 k (hal k hk)⟩,h.fj.step (fun _ _=>rfl) h.fj.nro fun b hb k hk=>h.fj.nal b hb k (hal k hk)⟩,fun base=>⟨fun _ h=>h,fun _ h=>h,fun k _ ha=>⟨hal k ha,rfl,rfl⟩⟩,hrep⟩
 exact (h.blk k b (he k b hb)).mono' ⟨fun _ h=>h,fun _ _=>rfl,.id⟩ (Nat.le_refl _) (fun _=>rfl) fun i _ _ ha=>⟨hal i ha,rfl,rfl⟩
def finK (base : Nat) (cs : List AV) (m : Mem) (es : List AV) (m1 : Mem) : Prop:=
 finL base m1 [] cs es m fun m=>finM base m1 es m1 m fun m=>eqMK m m1
theorem finK_ok {base : Nat} {cs es : List AV} {m m1 : Mem} (h : finK base cs m es m1) {w : World} {g : G} {lim : Nat} (hm : MSim w g lim (mget m)) (xs : Array Value) (hr : RepL w g lim cs xs) :
  ∃ g',MSim w g' lim (mget m1) ∧ LeG base g g' ∧ RepL w g' lim es xs:=by
 obtain ⟨m2,h2,q2⟩:=finL_ok cs h
 obtain ⟨m3,h3,q3⟩:=finM_ok m1 h2
 obtain ⟨g2,a1,a2,a3,a4⟩:=(q2 xs).2 w g lim hm
 obtain ⟨g3,b1,b2,b3,b4,_⟩:=q3.2 w g2 lim a1
 obtain ⟨g4,c1,c2,c3⟩:=b1.only (eqMK_ok h3)
 have hr2:=a3 hr
 exact ⟨g4,c1,(a2.trans b2).trans (c2 base),⟨hr2.1,fun i c x hc hx=>c3 _ _ (b4 c x (List.mem_of_getElem? hc) (hr2.2 i c x hc hx))⟩⟩
def endF (P : Program) (lim : Nat) (rs : List ResultVar) (v : AV) (m1 : Mem) : Post:=fun e f m=>match e with
 | .normal=>resK P f m rs fun v'=>finK lim [v'] m [v] m1
 | .ret=>resK P f m rs fun v'=>finK lim [v'] m [v] m1
 | .exit _=>False
theorem endF_ok {P : Program} {lim L' : Nat} {fn : Func} {f : List AV} {m : Mem} {v : AV} {m1 : Mem} (hv : scA lim v = true) (hm1 : scM lim m1 = true) (h : resK P f m fn.results.toList fun v'=>finK lim [v'] m [v] m1) {w : World} {g : G} {a : Act} (hs : Sim w g L' f (mget m) a) :
  ∃ x g',(results fn a.tmps).run P w = .ok x w ∧ Rep w g' lim v x ∧ MSim w g' lim (mget m1) ∧ LeG lim g g':=by
 obtain ⟨v',x,h,e1,e2⟩:=resK_ok h hs
 obtain ⟨g',h1,h2,h3⟩:=finK_ok h hs.me #[x] ⟨rfl,fun i c y hc hy=>by
  cases i with
  | zero=>simp at hc hy;subst hc;subst hy;exact e2
  | succ i=>simp at hc⟩
 exact ⟨x,g',e1,(h3.2 0 v x (by simp) (by simp)).lower hv,h1.lower hm1,h2⟩
theorem calls_of_evF {P : Program} {C : Cfg2} (hC : Cfg2Ok P C) {fid : FuncId} {fn : Func} {c : Code} (hf : P.funcs[fid]? = some fn) (hb : fn.body = some c) {base nt : Nat} {args : List AV} {m m1 : Mem} {v : AV}
  (hn : fn.ntmps - args.length = nt) (hv : scA base v = true) (hm1 : scM base m1 = true)
  (h : ev P C base c (endF P base fn.results.toList v m1) (args ++ undefs nt) m) {w : World} {g : G} {vs : Array Value} (hm : MSim w g base (mget m)) (ha : RepL w g base args vs) :
  Calls P fid vs w fun e w'=>∃ x g',e = .returned x ∧ Rep w' g' base v x ∧ MSim w' g' base (mget m1) ∧ Tr g w w' ∧ LeG base g g':=by
 refine calls_of_wp hf hb ?_
 have hsz : args.length = vs.size:=ha.1
 have hs : Sim w g (base + L) (args ++ undefs nt) (mget m) { tmps:=vs ++ Array.replicate (fn.ntmps - vs.size) undef,defers:=[] }:=by
  refine ⟨⟨by rw [undefs_eq];simp [hsz,← hn],fun i c x hc hx=>?_⟩,rfl,hm.raise (Nat.le_add_right _ _)⟩
  by_cases hi : i < args.length
  ·rw [List.getElem?_append_left hi] at hc
   rw [Array.getElem?_append_left (by omega)] at hx
   exact (ha.2 i c x hc hx).mono ⟨fun _ h=>h,fun _ _=>rfl,.id⟩ (Nat.le_add_right _ _) fun _ _ h=>⟨h,rfl,rfl⟩
  ·rw [List.getElem?_append_right (by omega),undefs_eq,List.getElem?_replicate] at hc
   rw [Array.getElem?_append_right (by omega),Array.getElem?_replicate] at hx
   split at hc
   ·split at hx
    ·simp at hc hx;subst hc;subst hx;exact .lit _
    ·cases hx
   ·cases hc
 refine Code.wp_mono (fun e a' w' hh=>?_) ((ev_ok hC c h).go w g _ hs)
 obtain ⟨ae,f',m',g',rfl,hq,hs',ht,hl⟩:=hh
 cases ae with
 | normal =>
  obtain ⟨x,g2,e1,e2,e3,e4⟩:=endF_ok hv hm1 hq hs'
  exact ⟨hs'.df,x,e1,x,g2,rfl,e2,e3,ht,hl.trans e4⟩
 | ret =>
  obtain ⟨x,g2,e1,e2,e3,e4⟩:=endF_ok hv hm1 hq hs'
  exact ⟨hs'.df,x,e1,x,g2,rfl,e2,e3,ht,hl.trans e4⟩
 | exit i=>exact hq.elim
theorem Api.of_fin {P : Program} {C : Cfg2} (hC : Cfg2Ok P C) {fid : FuncId} {fn : Func} {c : Code} (hf : P.funcs[fid]? = some fn) (hb : fn.body = some c) {nt : Nat} {args : List AV} {v : AV}
  (hn : fn.ntmps - args.length = nt) (hv : scA 0 v = true) (h : ev P C 0 c (endF P 0 fn.results.toList v []) (args ++ undefs nt) []) : Api P fid args v:=
 fun _ _ _ hm ha=>calls_of_evF hC hf hb hn hv rfl h hm ha
theorem Ev1.of_fin {P : Program} {C : Cfg2} (hC : Cfg2Ok P C) {fid : FuncId} {fn : Func} {c : Code} (hf : P.funcs[fid]? = some fn) (hb : fn.body = some c) {nt : Nat} {args : List AV} {m0 m1 : Mem} {v : AV}
  (hn : fn.ntmps - args.length = nt) (hv : scA L v = true) (hm1 : scM L m1 = true) (h : ev P C L c (endF P L fn.results.toList v m1) (args ++ undefs nt) m0) : Ev1 P fid args m0 v m1:=
 fun _ _ _ hm ha=>calls_of_evF hC hf hb hn hv hm1 h hm ha
def topsK : List AV → (List AV → Prop) → Prop
 | [],K=>K []
 | _ :: r,K=>topsK r fun r=>K (.top :: r)
def setsK : List AV → List Nat → List AV → (List AV → Prop) → Prop
 | f,[],_,K=>K f
 | f,i :: is,es,K=>match es with
  | e :: es=>setK f i e fun f=>setsK f is es K
  | []=>K f
def getsK : List AV → List Nat → (List AV → Prop) → Prop
 | _,[],K=>K []
 | f,i :: is,K=>nthK f i fun v=>getsK f is fun vs=>K (v :: vs)
def sameL : List AV → List AV → Bool
 | [],[]=>true
 | _ :: a,_ :: b=>sameL a b
 | _,_=>false
theorem sameL_ok : ∀ {a b : List AV},sameL a b = true → a.length = b.length
 | [],[],_=>rfl
 | _ :: a,_ :: b,h=>by simp [sameL_ok (a:=a) (b:=b) h]
 | [],_ :: _,h=>by cases h
 | _ :: _,[],h=>by cases h
def tops : List AV → List AV
 | []=>[]
 | _ :: r=>.top :: tops r
def sets : List AV → List Nat → List AV → List AV
 | f,[],_=>f
 | f,i :: is,es=>match es with
  | e :: es=>sets (f.set i e) is es
  | []=>f
theorem topsK_eq (f : List AV) (K : List AV → Prop) : topsK f K = K (tops f):=by
 induction f generalizing K with
 | nil=>rfl
 | cons a r ih=>simp only [topsK,tops];rw [ih]
theorem setsK_eq (is : List Nat) : ∀ (f es : List AV) (K : List AV → Prop),setsK f is es K = K (sets f is es):=by
 induction is with
 | nil=>intro f es K;simp [setsK,sets]
 | cons i is ih =>
  intro f es K
  cases es with
  | nil=>rfl
  | cons e es=>simp only [setsK,sets];rw [setK_eq,ih]
theorem getsK_eq (f : List AV) (is : List Nat) : ∀ (K : List AV → Prop),getsK f is K = K (is.map fun i=>(f[i]?).getD und):=by
 induction is with
 | nil=>intro K;rfl
 | cons i is ih=>intro K;simp only [getsK,List.map_cons];rw [nthK_eq,ih]
theorem tops_length (f : List AV) : (tops f).length = f.length:=by induction f with|nil=>rfl|cons a r ih=>simp [tops,ih]
theorem tops_get : ∀ {f : List AV} {i : Nat} {c : AV},(tops f)[i]? = some c → c = .top
 | [],i,c,h=>by simp [tops] at h
 | a :: r,0,c,h=>by simp [tops] at h;exact h.symm
 | a :: r,i + 1,c,h=>tops_get (f:=r) (by simpa [tops] using h)
theorem RepL.sets {w : World} {g : G} {lim : Nat} : ∀ (is : List Nat) {f es : List AV} {xs ys : Array Value},RepL w g lim f xs → RepL w g lim es ys → (∀ (k i : Nat),is[k]? = some i → i < xs.size → ys[k]? = xs[i]?) → RepL w g lim (sets f is es) xs
 | [],f,es,xs,ys,hf,_,_=>by simpa [Eng.sets] using hf
 | i :: is,f,es,xs,ys,hf,he,hg=>by
  cases es with
  | nil=>exact hf
  | cons e es =>
   simp only [Eng.sets]
   obtain ⟨y,ys',hy⟩ : ∃ y ys',ys = (y :: ys' : List Value).toArray:=by
    cases hy : ys.toList with
    | nil=>have:=he.1;rw [← Array.length_toList,hy] at this;simp at this
    | cons y ys'=>exact ⟨y,ys',by rw [← Array.toArray_toList (xs:=ys),hy]⟩
   subst hy
   refine RepL.sets is (ys:=ys'.toArray) ⟨by rw [List.length_set];exact hf.1,fun j c x hc hx=>?_⟩ ⟨by have:=he.1;simpa using this,fun k c x hc hx=>he.2 (k + 1) c x (by simpa using hc) (by simpa using hx)⟩ (fun k j hk hj=>by simpa using hg (k + 1) j (by simpa using hk) hj)
   by_cases hij : i = j
   ·subst hij
    rw [List.getElem?_set] at hc
    have hlt : i < xs.size:=(Array.getElem?_eq_some_iff.1 hx).1
    have:=hg 0 i (by simp) hlt
    simp at this
    simp at hc
    obtain ⟨_,rfl⟩:=hc
    rw [hx] at this
    exact he.2 0 e x (by simp) (by simpa using this)
   ·rw [List.getElem?_set_ne hij] at hc
    exact hf.2 j c x hc hx
def atK (base : Nat) (is : List Nat) (f : List AV) (m : Mem) (es : List AV) (m1 : Mem) : Prop:=getsK f is fun cs=>finK base cs m es m1
theorem atK_ok {base : Nat} {is : List Nat} {f f0 : List AV} {m : Mem} {es : List AV} {m1 : Mem} (h : atK base is f m es m1) (hl : f.length = f0.length) {w : World} {g : G} {lim : Nat} {a : Act} (hs : Sim w g lim f (mget m) a) :
  ∃ g',Sim w g' lim (sets (tops f0) is es) (mget m1) a ∧ LeG base g g':=by
 unfold atK at h
 rw [getsK_eq] at h
 obtain ⟨g',h1,h2,h3⟩:=finK_ok h hs.me (is.map fun i=>(a.tmps[i]?).getD undef).toArray ⟨by simp,fun k c x hc hx=>by
  simp only [List.getElem?_map,Option.map_eq_some_iff] at hc
  obtain ⟨i,hi,rfl⟩:=hc
  simp [hi] at hx
  subst hx
  have hll:=hs.fr.1
  by_cases hlt : i < a.tmps.size
  ·rw [Array.getElem?_eq_getElem hlt,List.getElem?_eq_getElem (by omega)]
   exact hs.fr.2 i _ _ (List.getElem?_eq_getElem (by omega)) (Array.getElem?_eq_getElem hlt)
  ·rw [Array.getElem?_eq_none (by omega),List.getElem?_eq_none (by omega)]
   exact .lit _⟩
 refine ⟨g',⟨RepL.sets is ⟨by rw [tops_length,← hl];exact hs.fr.1,fun i c x hc _=>by rw [tops_get hc];exact .top _⟩ h3 (fun k i hk hi=>by simp [hk,hi]),hs.df,h1⟩,h2⟩
inductive Next {σ : Type} (inv : σ → Prop) (lt : σ → Prop) (here : σ → Prop) : Prop where
 | to (s : σ) (h : inv s) (h' : lt s) (h'' : here s) : Next inv lt here
 | no (h : False) : Next inv lt here
theorem Runs.loopS {P : Program} {C : Cfg2} (hC : Cfg2Ok P C) {base : Nat} {c : Code} {Q : Post} {f : List AV} {m : Mem} {σ : Type} (is : List Nat) (S : σ → List AV) (M : σ → Mem) (inv : σ → Prop) (rank : σ → Nat) (s0 : σ)
  (hi : inv s0) (h0 : atK base is f m (S s0) (M s0))
  (round : ∀ s,inv s → topsK f fun f0=>setsK f0 is (S s) fun f1=>ev P C base c (fun e f' m'=>match e with
   | .normal=>match sameL f' f0 with
    | true=>Next inv (fun s'=>rank s' < rank s) (fun s'=>atK base is f' m' (S s') (M s'))
    | false=>False
   | e=>Q e f' m') f1 (M s)) : Runs P base (.loop c) Q f m:=by
 refine ⟨fun w g a hs=>?_⟩
 obtain ⟨g0,hs0,hl0⟩:=atK_ok (f0:=f) h0 rfl hs
 refine wp_loop_n (fun n a' w'=>∃ s g',inv s ∧ rank s = n ∧ Sim w' g' (base + L) (sets (tops f) is (S s)) (mget (M s)) a' ∧ Tr g w w' ∧ LeG base g g') (rank s0) ⟨s0,g0,hi,rfl,hs0,Tr.refl g w,hl0⟩ ?_
 intro n1 a1 w1 hh
 obtain ⟨s,g1,hI1,rfl,hs1,ht1,hl1⟩:=hh
 have hr:=round s hI1
 rw [topsK_eq,setsK_eq] at hr
 refine Code.wp_mono (fun e a2 w2 hh=>?_) ((ev_ok hC c hr).go w1 g1 a1 hs1)
 obtain ⟨ae,f2,m2,g2,rfl,hq,hs2,ht2,hl2⟩:=hh
 cases ae with
 | normal =>
  simp only at hq
  cases hsl : sameL f2 (tops f) with
  | false=>rw [hsl] at hq;exact hq.elim
  | true =>
   rw [hsl] at hq
   rcases hq with ⟨s',hi',hlt,hat⟩|hq
   case no=>exact hq.elim
   obtain ⟨g3,hs3,hl3⟩:=atK_ok (f0:=f) hat (by rw [sameL_ok hsl,tops_length]) hs2
   exact ⟨rank s',hlt,s',g3,hi',rfl,hs3,ht1.trans hl1 ht2,(hl1.trans hl2).trans hl3⟩
 | exit i=>exact ⟨.exit i,f2,m2,g2,rfl,hq,hs2,ht1.trans hl1 ht2,hl1.trans hl2⟩
 | ret=>exact ⟨.ret,f2,m2,g2,rfl,hq,hs2,ht1.trans hl1 ht2,hl1.trans hl2⟩
theorem isE {P : Program} {base : Nat} (fid : FuncId) {args : List AV} {f : List AV} {m : Mem} {d : Option Nat} {K : List AV → Mem → Prop} {J : Prop}
 (h : (∃ c : Act1,(∀ p ∈ c.rd,mget m p.1 = some p.2) ∧ CAct P base fid args c ∧ applyK c f m d K) ∨ J) :
 (∃ c : Act1,(∀ p ∈ c.rd,mget m p.1 = some p.2) ∧ CAct P base fid args c ∧ applyK c f m d K) ∨ J:=h
theorem isD {P : Program} {base : Nat} (fid : FuncId) {args : List AV} {m : Mem} {K : Act1 → Prop}
 (h : ∃ c : Act1,(∀ p ∈ c.rd,mget m p.1 = some p.2) ∧ CAct P base fid args c ∧ K c) :
 ∃ c : Act1,(∀ p ∈ c.rd,mget m p.1 = some p.2) ∧ CAct P base fid args c ∧ K c:=h
theorem lens {α : Type} : (∀ (a : α) (l : List α),(a :: l).length = l.length + 1) ∧ ([] : List α).length = 0 ∧ (∀ a b : List α,(a ++ b).length = a.length + b.length) ∧ (∀ (n : Nat) (l : List α),(l.take n).length = min n l.length) ∧ (∀ (n : Nat) (l : List α),(l.drop n).length = l.length - n) ∧ (∀ (n : Nat) (a : α),(List.replicate n a).length = n) ∧ (∀ (l : List α) (n : Nat) (a : α),(l.set n a).length = l.length):=
 ⟨fun _ _=>rfl,rfl,fun _ _=>List.length_append,fun _ _=>List.length_take,fun _ _=>List.length_drop,fun _ _=>List.length_replicate,fun _ _ _=>List.length_set⟩
theorem inU8 {r : Int} (h : 0 ≤ r) (h' : r ≤ 255) : inR .u8 r:=by unfold inR;exact IntWalk.u8_in r ⟨h,h'⟩
theorem inU64 {r : Int} (h : 0 ≤ r) (h' : r ≤ 18446744073709551615) : inR .u64 r:=by unfold inR;exact IntWalk.u64_in r ⟨h,h'⟩
theorem nrm : (∀ {p : Prop} [Decidable p],(decide p = true) = p) ∧ (∀ {p : Prop} [Decidable p],decide p = false ↔ ¬p) ∧ (∀ {a b : Int},¬a < b ↔ b ≤ a) ∧ (∀ {a b : Int},¬a ≤ b ↔ b < a) ∧
  (∀ {α : Type} [BEq α] [LawfulBEq α] {a b : α},(a == b) = true ↔ a = b) ∧ (∀ {α : Type} [BEq α] [LawfulBEq α] {a b : α},(a == b) = false ↔ a ≠ b) ∧
  (∀ {α : Type} [BEq α] [LawfulBEq α] {a b : α},(a != b) = true ↔ a ≠ b) ∧ (∀ {α : Type} [BEq α] [LawfulBEq α] {a b : α},(a != b) = false ↔ a = b) ∧
  (∀ {α : Type} (a b : α),(a ≠ b) = ¬a = b) ∧ (∀ {p : Prop} [Decidable p],¬¬p ↔ p) ∧ (∀ {b : Bool},(!b) = true ↔ b = false) ∧ (∀ {b : Bool},(!b) = false ↔ b = true) ∧
  (∀ {b : Bool},(¬b = true) = (b = false)) ∧ (∀ {b : Bool},(¬b = false) = (b = true)) ∧ (∀ (n : Nat),(n : Int).toNat = n) ∧ (∀ (a b : Bool),((a && b) = true) = (a = true ∧ b = true)) ∧
  (∀ (a b : Bool),((a || b) = true) = (a = true ∨ b = true)) ∧ (∀ {a b : Bool},(a && b) = false ↔ a = false ∨ b = false) ∧ (∀ {a b : Bool},(a || b) = false ↔ a = false ∧ b = false) ∧
  (∀ {α : Type},([] : List α).length = 0) ∧ (∀ {α : Type} {a : α} {l : List α},(a :: l).length = l.length + 1):=
 ⟨decide_eq_true_eq,decide_eq_false_iff_not,Int.not_lt,Int.not_le,beq_iff_eq,beq_eq_false_iff_ne,bne_iff_ne,bne_eq_false_iff_eq,ne_eq,Decidable.not_not,by simp,by simp,by simp,by simp,Int.toNat_natCast,by simp,by simp,by simp,by simp,List.length_nil,List.length_cons⟩
theorem bd2 {a b c d : Prop} (k : c) (h1 : a:=by omega) (h2 : b:=by omega) : (a ∧ b ∧ c) ∨ d:=.inl ⟨h1,h2,k⟩
theorem bdR {a b c d : Prop} (k : c) (h1 : a:=by first|omega|(simp only [lens,Int.toNat_natCast,bsz,Nat.zero_mul,Nat.zero_add];omega)) (h2 : b:=by first|omega|(simp only [lens,Int.toNat_natCast,bsz,Nat.zero_mul,Nat.zero_add];omega)) : d ∨ ((a ∧ b) ∧ c):=.inr ⟨⟨h1,h2⟩,k⟩
theorem bdL {a b c d : Prop} (k : c) (h1 : a:=by first|omega|(simp only [lens,Int.toNat_natCast,bsz,Nat.zero_mul,Nat.zero_add];omega)) (h2 : b:=by first|omega|(simp only [lens,Int.toNat_natCast,bsz,Nat.zero_mul,Nat.zero_add];omega)) : ((a ∧ b) ∧ c) ∨ d:=.inl ⟨⟨h1,h2⟩,k⟩
theorem rf1 {α : Type} {a b : α} {q : Prop} (h : a = b) (k : q) : a = b ∧ q:=⟨h,k⟩
theorem kA {P : Program} {base : Nat} {fid : FuncId} {args : List AV} {v : AV} (h : Api P fid args v) {f : List AV} {m : Mem} {d : Option Nat} {K : List AV → Mem → Prop} {J : Prop}
 (hK : applyK (vA v) f m d K) (ha : dataL args = true:=by exact rfl) (hv : pureV v = true:=by exact rfl) : (∃ c : Act1,(∀ p ∈ c.rd,mget m p.1 = some p.2) ∧ CAct P base fid args c ∧ applyK c f m d K) ∨ J:=callApi h ha hv hK
theorem kD {P : Program} {base : Nat} {fid : FuncId} {args : List AV} {v : AV} (h : Api P fid args v) {m : Mem} {K : Act1 → Prop} (hK : K (vA v)) (ha : dataL args = true:=by exact rfl) (hv : pureV v = true:=by exact rfl) :
 ∃ c : Act1,(∀ p ∈ c.rd,mget m p.1 = some p.2) ∧ CAct P base fid args c ∧ K c:=callApiD h ha hv hK
theorem kE {P : Program} {base : Nat} {fid : FuncId} {args args' : List AV} {m0 m1 : Mem} {v : AV} (h : Ev1 P fid args m0 v m1) (l : List (Nat × Nat)) {f : List AV} {m : Mem} {d : Option Nat} {K : List AV → Mem → Prop} {J : Prop}
 (hargs : renL (asc l) args = args') (hK : liftCK l m0 v m1 fun c=>applyK c f m d K) (hrd : rdK (asc l) m m0:=by (repeat' (first|exact trivial|(refine ⟨rfl,?_⟩)))) (hok : liftB base l args m0 v m1 = true:=by kernel_rfl) :
 (∃ c : Act1,(∀ p ∈ c.rd,mget m p.1 = some p.2) ∧ CAct P base fid args' c ∧ applyK c f m d K) ∨ J:=callEv h l hargs hrd hok hK
theorem kF {P : Program} {base : Nat} {fid : FuncId} {args args' : List AV} {m0 m1 : Mem} {v : AV} (h : Ev1 P fid args m0 v m1) (l : List (Nat × Nat)) {m : Mem} {K : Act1 → Prop}
 (hargs : renL (asc l) args = args') (hK : liftCK l m0 v m1 K) (hrd : rdK (asc l) m m0:=by (repeat' (first|exact trivial|(refine ⟨rfl,?_⟩)))) (hok : liftB base l args m0 v m1 = true:=by kernel_rfl) :
 ∃ c : Act1,(∀ p ∈ c.rd,mget m p.1 = some p.2) ∧ CAct P base fid args' c ∧ K c:=callEvD h l hargs hrd hok hK
theorem kW {P : Program} {C : Cfg2} (hC : Cfg2Ok P C) {base : Nat} {ops : Array Oper} {f : List AV} {m : Mem} {K : List AV → Mem → Prop} (h : drawK P C base ops.toList ops.toList f m fun rs fr m'=>confB .any ops.toList rs f m = true ∧ K fr m')
 (hB : Region.lexB .any ops = true:=by kernel_rfl) : Draws P base ops f m K:=Draws.of hC hB h
theorem kC {md : Region.Mode} {ops : List Oper} {rs : List Res} {f : List AV} {m : Mem} {q : Prop} (k : q) (h : confB md ops rs f m = true:=by kernel_rfl) : confB md ops rs f m = true ∧ q:=⟨h,k⟩
theorem bdA {p q : Prop} (k : q) (h : p:=by first|omega|exact rfl|exact congrArg (Value.int _) (by omega)|(simp only [lens,Int.toNat_natCast,bsz,Nat.zero_mul,Nat.zero_add];omega)) : p ∧ q:=⟨h,k⟩
theorem kL {k : IntKind} {n : Int} {c d : Prop} (h : c) (h1 : inR k n:=by first|exact in64 (by omega) (by omega)|exact inU64 (by omega) (by omega)|exact inU8 (by omega) (by omega)) : (inR k n ∧ c) ∨ d:=.inl ⟨h1,h⟩
theorem kB {b c : Bool} {q : Prop} (h : b = c) (h2 : b = !c:=by assumption) : q:=by subst h;cases b<;>cases h2
open Go Go.RowKit
def keepD (l : List (Nat × Nat)) : Mem → Mem
 | []=>[]
 | (k,b) :: r=>match hasD l k with
  | true=>(k,b) :: keepD l r
  | false=>keepD l r
theorem keepD_get {l : List (Nat × Nat)} : ∀ {m : Mem} {k : Nat} {b : Blk},mget (keepD l m) k = some b → mget m k = some b
 | [],k,b,h=>by simp [keepD,mget] at h
 | (i,c) :: r,k,b,h=>by
  simp only [keepD] at h
  simp only [mget]
  cases hd : hasD l i with
  | true =>
   rw [hd] at h
   simp only [mget] at h
   cases hik : Nat.beq i k with
   | true=>rw [hik] at h;exact h
   | false=>rw [hik] at h;exact keepD_get h
  | false =>
   rw [hd] at h
   simp only at h
   cases hik : Nat.beq i k with
   | true =>
    have:=keepD_get h
    have hlk : ∀ {r : Mem},hasD l k = false → mget (keepD l r) k = none:=by
     intro r hf
     induction r with
     | nil=>rfl
     | cons p r ih =>
      obtain ⟨j,e⟩:=p
      simp only [keepD]
      cases hj : hasD l j with
      | false=>exact ih
      | true =>
       simp only [mget]
       cases hjk : Nat.beq j k with
       | false=>exact ih
       | true=>rw [nbt.1 hjk,hf] at hj;cases hj
    rw [nbt.1 hik] at hd
    rw [hlk hd] at h;cases h
   | false=>exact keepD_get h
def odd1 (n : Nat) : Bool:=Nat.beq (n % 2) 1
def fitT (base : Nat) : List (Nat × Nat) → Bool
 | []=>true
 | (i,a) :: r=>match Nat.beq i a with
  | true=>match Nat.blt a base with
   | true=>fitT base r
   | false=>false
  | false=>match Nat.ble base a with
   | true=>match odd1 a with
    | true=>fitT base r
    | false=>false
   | false=>false
theorem fitT_ok {base : Nat} : ∀ {l : List (Nat × Nat)},fitT base l = true → ∀ k,hasD l k = true → (asc l k = k ∧ k < base) ∨ (base ≤ asc l k ∧ asc l k % 2 = 1)
 | [],_,k,hk=>by cases hk
 | (i,a) :: r,h,k,hk=>by
  simp only [fitT] at h
  simp only [hasD] at hk
  simp only [asc]
  cases hik : Nat.beq i k with
  | true =>
   have e:=nbt.1 hik
   subst e
   simp only
   cases hia : Nat.beq i a with
   | true =>
    rw [hia] at h
    simp only at h
    cases hb : Nat.blt a base with
    | true=>exact .inl ⟨(nbt.1 hia).symm,by rw [nbt.1 hia];exact Nat.le_of_ble_eq_true hb⟩
    | false=>rw [hb] at h;cases h
   | false =>
    rw [hia] at h
    simp only at h
    cases hb : Nat.ble base a with
    | false=>rw [hb] at h;cases h
    | true =>
     rw [hb] at h
     simp only at h
     cases ho : odd1 a with
     | false=>rw [ho] at h;cases h
     | true=>exact .inr ⟨Nat.le_of_ble_eq_true hb,nbt.1 ho⟩
  | false =>
   rw [hik] at hk
   simp only at hk ⊢
   refine fitT_ok (l:=r) ?_ k hk
   cases hia : Nat.beq i a with
   | true =>
    rw [hia] at h
    simp only at h
    cases hb : Nat.blt a base with
    | true=>rw [hb] at h;exact h
    | false=>rw [hb] at h;cases h
   | false =>
    rw [hia] at h
    simp only at h
    cases hb : Nat.ble base a with
    | false=>rw [hb] at h;cases h
    | true =>
     rw [hb] at h
     simp only at h
     cases ho : odd1 a with
     | false=>rw [ho] at h;cases h
     | true=>rw [ho] at h;exact h
def renC (base : Nat) (l : List (Nat × Nat)) (m : Mem) (v : AV) : Bool:=
 match injB l with
 | false=>false
 | true=>match fitT base l with
  | false=>false
  | true=>match memOk (hasD l) (hasD l) m with
   | false=>false
   | true=>namB (hasD l) v
theorem mget_rdR {l : List (Nat × Nat)} (hi : injB l = true) : ∀ {m : Mem},(∀ k,hasK m k = true → hasD l k = true) → ∀ {j : Nat} {b : Blk},mget (rdR (asc l) m) j = some b → ∃ k c,asb l j = some k ∧ mget m k = some c ∧ b = renB (asc l) c
 | [],_,j,b,h=>by simp [rdR,mget] at h
 | (k,c) :: r,hd,j,b,h=>by
  simp only [rdR,mget] at h
  have hk : hasD l k = true:=hd k (by simp [hasK,Nat.beq_refl])
  cases hkj : Nat.beq (asc l k) j with
  | true =>
   rw [hkj] at h
   cases h
   have e:=nbt.1 hkj
   exact ⟨k,c,by rw [← e];exact asb_asc hi hk,by simp [mget,Nat.beq_refl],rfl⟩
  | false =>
   rw [hkj] at h
   obtain ⟨k2,c2,h1,h2,h3⟩:=mget_rdR hi (m:=r) (fun i hh=>hd i (by simp only [hasK];split<;>simp_all)) h
   refine ⟨k2,c2,h1,?_,h3⟩
   simp only [mget]
   cases hkk : Nat.beq k k2 with
   | false=>exact h2
   | true =>
    have e:=nbt.1 hkk
    subst e
    have:=asb_some hi h1
    rw [this.2,Nat.beq_refl] at hkj
    cases hkj
theorem mget_rdR2 {l : List (Nat × Nat)} (hi : injB l = true) : ∀ {m : Mem},(∀ k,hasK m k = true → hasD l k = true) → ∀ {k : Nat} {c : Blk},mget m k = some c → mget (rdR (asc l) m) (asc l k) = some (renB (asc l) c)
 | [],_,k,c,h=>by simp [mget] at h
 | (i,e) :: r,hd,k,c,h=>by
  simp only [rdR,mget] at h ⊢
  have hki : hasD l i = true:=hd i (by simp [hasK,Nat.beq_refl])
  cases hik : Nat.beq i k with
  | true =>
   rw [hik] at h
   cases h
   rw [nbt.1 hik,Nat.beq_refl]
  | false =>
   rw [hik] at h
   simp only at h
   have hd2 : ∀ k,hasK r k = true → hasD l k = true:=fun i hh=>hd i (by simp only [hasK];split<;>simp_all)
   have hk : hasD l k = true:=hd2 k (by rw [hasK_some,h];rfl)
   have hne : Nat.beq (asc l i) (asc l k) = false:=nbf.2 fun e=>by
    have h1:=asb_asc hi hki
    rw [e,asb_asc hi hk] at h1
    cases h1
    rw [Nat.beq_refl] at hik;cases hik
   rw [hne]
   exact mget_rdR2 hi hd2 h
theorem ren_all {base lim : Nat} {l : List (Nat × Nat)} {m : Mem} {v : AV} (hok : renC base l m v = true) {w : World} {g : G} {x : Value} (hm : MSim w g lim (mget m)) (hr : Rep w g lim v x) (hlim : base ≤ lim) :
  ∃ g',MSim w g' base (mget (rdR (asc l) m)) ∧ LeG base g g' ∧ Rep w g' base (renV (asc l) v) x:=by
 unfold renC at hok
 split at hok
 ·cases hok
 rename_i hinj
 split at hok
 ·cases hok
 rename_i hfit
 split at hok
 ·cases hok
 rename_i hmem
 have hd : ∀ k,hasK m k = true → hasD l k = true:=fun k hk=>by
  rw [hasK_some] at hk
  obtain ⟨b,hb⟩:=Option.isSome_iff_exists.1 hk
  exact (memOk_get hmem hb).1
 let σ : Nat → Nat:=fun j=>(asb l j).getD 0
 have hσ : ∀ k,hasD l k = true → σ (asc l k) = k:=fun k hk=>by simp only [σ];rw [asb_asc hinj hk];rfl
 let g' : G:={ ro:=g.ro,no:=g.no,al:=fun j=>∃ k,asb l j = some k ∧ g.al k,be:=fun j=>g.be (σ j),sz:=fun j=>g.sz (σ j),fr:=g.fr,jd:=g.jd,fn:=g.fn }
 have hal : ∀ {j},g'.al j → g.al (σ j) ∧ asc l (σ j) = j ∧ hasD l (σ j) = true:=fun {j} ⟨k,h1,h2⟩=>by
  obtain ⟨q1,q2⟩:=asb_some hinj h1
  have e : σ j = k:=by simp only [σ,h1];rfl
  rw [e];exact ⟨h2,q2,q1⟩
 have hpk : ∀ k,hasD l k = true → (asc l k < base ∨ asc l k % 2 = 1) ∧ (g'.al (asc l k) → g.al k ∧ g'.be (asc l k) = g.be k ∧ g'.sz (asc l k) = g.sz k):=fun k hk=>by
  refine ⟨?_,fun ha=>?_⟩
  ·rcases fitT_ok hfit k hk with ⟨h1,h2⟩|⟨_,h2⟩
   ·exact .inl (by rw [h1];exact h2)
   ·exact .inr h2
  ·have h3:=(hal ha).1
   rw [hσ k hk] at h3
   exact ⟨h3,by simp only [g'];rw [hσ k hk],by simp only [g'];rw [hσ k hk]⟩
 have hkw : Keeps w w g g':=⟨fun _ h=>h,fun _ _=>rfl,.id⟩
 refine ⟨g',⟨fun j=>⟨fun ha=>?_,fun hs=>?_⟩,fun j ha=>?_,fun j ha hz=>hm.nro _ (hal ha).1 hz,fun i j hi hj zi zj e=>?_,fun j b hb=>?_,hm.rolt,fun b hb=>⟨(hm.nof b hb).1,(hm.nof b hb).2.1,fun k ha hz=>(hm.nof b hb).2.2 _ (hal ha).1 hz⟩,hm.fj.step (fun _ _=>rfl) hm.fj.nro fun b hb k ha hz=>hm.fj.nal b hb _ (hal ha).1 hz⟩,⟨fun _ h=>h,fun _ h=>h,fun k hk ha=>?_⟩,hr.ren hkw hpk hok⟩
 ·obtain ⟨h1,h2,h3⟩:=hal ha
  obtain ⟨c,hc⟩:=Option.isSome_iff_exists.1 ((hm.al _).1 h1)
  have:=mget_rdR2 hinj hd hc
  rw [h2] at this
  rw [this];rfl
 ·obtain ⟨b,hb⟩:=Option.isSome_iff_exists.1 hs
  obtain ⟨k,c,h1,h2,_⟩:=mget_rdR hinj hd hb
  exact ⟨k,h1,(hm.al k).2 (by rw [h2];rfl)⟩
 ·obtain ⟨h1,h2,h3⟩:=hal ha
  have:=(hpk _ h3).1
  rw [h2] at this;exact this
 ·have h1:=hal hi
  have h2:=hal hj
  have:=hm.inj _ _ h1.1 h2.1 zi zj e
  rw [← h1.2.1,← h2.2.1,this]
 ·obtain ⟨k,c,h1,h2,rfl⟩:=mget_rdR hinj hd hb
  have e : σ j = k:=by simp only [σ,h1];rfl
  have h3:=(hm.blk k c h2).ren hkw hpk (fun _=>rfl) (fun cs hcs=>(memOk_get hmem h2).2.1 cs hcs) (fun ks cs hcs=>(memOk_get hmem h2).2.2 ks cs hcs)
  simp only [g',e];exact h3
 ·obtain ⟨h1,h2,h3⟩:=hal ha
  rcases fitT_ok hfit _ h3 with ⟨h4,_⟩|⟨h4,_⟩
  ·rw [h2] at h4
   simp only [g']
   rw [← h4] at h1 ⊢
   exact ⟨h1,rfl,rfl⟩
  ·omega
def endR (P : Program) (lim : Nat) (l : List (Nat × Nat)) (rs : List ResultVar) (v : AV) (m1 : Mem) : Post:=fun e f m=>match e with
 | .normal=>resK P f m rs fun v'=>renC lim l (keepD l m) v' = true ∧ finK lim [renV (asc l) v'] (rdR (asc l) (keepD l m)) [v] m1
 | .ret=>resK P f m rs fun v'=>renC lim l (keepD l m) v' = true ∧ finK lim [renV (asc l) v'] (rdR (asc l) (keepD l m)) [v] m1
 | .exit _=>False
theorem endR_ok {P : Program} {lim L' : Nat} {l : List (Nat × Nat)} {fn : Func} {f : List AV} {m : Mem} {v : AV} {m1 : Mem} (hL : lim ≤ L')
  (h : resK P f m fn.results.toList fun v'=>renC lim l (keepD l m) v' = true ∧ finK lim [renV (asc l) v'] (rdR (asc l) (keepD l m)) [v] m1) {w : World} {g : G} {a : Act} (hs : Sim w g L' f (mget m) a) :
  ∃ x g',(results fn a.tmps).run P w = .ok x w ∧ Rep w g' lim v x ∧ MSim w g' lim (mget m1) ∧ LeG lim g g':=by
 obtain ⟨v',x,⟨h0,h⟩,e1,e2⟩:=resK_ok h hs
 obtain ⟨g1,a1,a2,a3⟩:=hs.me.only (m1:=keepD l m) fun k b hb=>keepD_get hb
 obtain ⟨g2,b1,b2,b3⟩:=ren_all h0 a1 (a3 _ _ e2) hL
 obtain ⟨g',h1,h2,h3⟩:=finK_ok h b1 #[x] ⟨rfl,fun i c y hc hy=>by
  cases i with
  | zero=>simp at hc hy;subst hc;subst hy;exact b3
  | succ i=>simp at hc⟩
 exact ⟨x,g',e1,h3.2 0 v x (by simp) (by simp),h1,((a2 lim).trans b2).trans h2⟩
theorem calls_of_evR {P : Program} {C : Cfg2} (hC : Cfg2Ok P C) {fid : FuncId} {fn : Func} {c : Code} (hf : P.funcs[fid]? = some fn) (hb : fn.body = some c) {base nt : Nat} {l : List (Nat × Nat)} {args : List AV} {m m1 : Mem} {v : AV}
  (hn : fn.ntmps - args.length = nt)
  (h : ev P C base c (endR P base l fn.results.toList v m1) (args ++ undefs nt) m) {w : World} {g : G} {vs : Array Value} (hm : MSim w g base (mget m)) (ha : RepL w g base args vs) :
  Calls P fid vs w fun e w'=>∃ x g',e = .returned x ∧ Rep w' g' base v x ∧ MSim w' g' base (mget m1) ∧ Tr g w w' ∧ LeG base g g':=by
 refine calls_of_wp hf hb ?_
 have hsz : args.length = vs.size:=ha.1
 have hs : Sim w g (base + L) (args ++ undefs nt) (mget m) { tmps:=vs ++ Array.replicate (fn.ntmps - vs.size) undef,defers:=[] }:=by
  refine ⟨⟨by rw [undefs_eq];simp [hsz,← hn],fun i c x hc hx=>?_⟩,rfl,hm.raise (Nat.le_add_right _ _)⟩
  by_cases hi : i < args.length
  ·rw [List.getElem?_append_left hi] at hc
   rw [Array.getElem?_append_left (by omega)] at hx
   exact (ha.2 i c x hc hx).mono ⟨fun _ h=>h,fun _ _=>rfl,.id⟩ (Nat.le_add_right _ _) fun _ _ h=>⟨h,rfl,rfl⟩
  ·rw [List.getElem?_append_right (by omega),undefs_eq,List.getElem?_replicate] at hc
   rw [Array.getElem?_append_right (by omega),Array.getElem?_replicate] at hx
   split at hc
   ·split at hx
    ·simp at hc hx;subst hc;subst hx;exact .lit _
    ·cases hx
   ·cases hc
 refine Code.wp_mono (fun e a' w' hh=>?_) ((ev_ok hC c h).go w g _ hs)
 obtain ⟨ae,f',m',g',rfl,hq,hs',ht,hl⟩:=hh
 cases ae with
 | normal =>
  obtain ⟨x,g2,e1,e2,e3,e4⟩:=endR_ok (Nat.le_add_right _ _) hq hs'
  exact ⟨hs'.df,x,e1,x,g2,rfl,e2,e3,ht,hl.trans e4⟩
 | ret =>
  obtain ⟨x,g2,e1,e2,e3,e4⟩:=endR_ok (Nat.le_add_right _ _) hq hs'
  exact ⟨hs'.df,x,e1,x,g2,rfl,e2,e3,ht,hl.trans e4⟩
 | exit i=>exact hq.elim
theorem Ev1.of_finR {P : Program} {C : Cfg2} (hC : Cfg2Ok P C) {fid : FuncId} {fn : Func} {c : Code} (hf : P.funcs[fid]? = some fn) (hb : fn.body = some c) (l : List (Nat × Nat)) {nt : Nat} {args : List AV} {m0 m1 : Mem} {v : AV}
  (hn : fn.ntmps - args.length = nt) (h : ev P C L c (endR P L l fn.results.toList v m1) (args ++ undefs nt) m0) : Ev1 P fid args m0 v m1:=
 fun _ _ _ hm ha=>calls_of_evR hC hf hb hn h hm ha
open Go Go.RowKit
theorem Runs.loopQ {P : Program} {C : Cfg2} (hC : Cfg2Ok P C) {base : Nat} {c : Code} {Q : Post} {f : List AV} {m : Mem} {σ : Type} (is : List Nat) (S : σ → List AV) (M : σ → Mem) (inv : σ → Prop) (rank : σ → Nat) (s0 : σ)
  (hi : inv s0) (h0 : atK base is f m (S s0) (M s0))
  (round : ∀ s,inv s → ∀ N : Post,(∀ f' m',(match sameL f' (tops f) with
    | true=>Next inv (fun s'=>rank s' < rank s) (fun s'=>atK base is f' m' (S s') (M s'))
    | false=>False) → N .normal f' m') → (∀ i f' m',Q (.exit i) f' m' → N (.exit i) f' m') → (∀ f' m',Q .ret f' m' → N .ret f' m') →
   topsK f fun f0=>setsK f0 is (S s) fun f1=>ev P C base c N f1 (M s)) : Runs P base (.loop c) Q f m:=by
 refine Runs.loopS hC is S M inv rank s0 hi h0 fun s hs=>?_
 have h:=round s hs (fun e f' m'=>match e with
  | .normal=>match sameL f' (tops f) with
   | true=>Next inv (fun s'=>rank s' < rank s) (fun s'=>atK base is f' m' (S s') (M s'))
   | false=>False
  | e=>Q e f' m') (fun f' m' h=>h) (fun i f' m' h=>h) (fun f' m' h=>h)
 rw [topsK_eq] at h ⊢
 exact h
theorem evCut {P : Program} {C : Cfg2} {base : Nat} {x y : Code} {Q : Post} {f : List AV} {m : Mem}
  (h : ∀ N : Post,(∀ f' m',ev P C base y Q f' m' → N .normal f' m') → (∀ i f' m',Q (.exit i) f' m' → N (.exit i) f' m') → (∀ f' m',Q .ret f' m' → N .ret f' m') → ev P C base x N f m) : ev P C base (.seq x y) Q f m:=by
 show ev P C base x _ f m
 exact h _ (fun f' m' h=>h) (fun _ _ _ h=>h) (fun _ _ h=>h)
open Go Go.RowKit
open Go Go.RowKit
def GhostM (base : Nat) (m m' : Mem) : Prop:=∀ (w : World) (g : G),MSim w g (base + L) (mget m) →
 ∃ g' : G,MSim w g' (base + L) (mget m') ∧ (∀ b,g.ro b → g'.ro b) ∧ (∀ b,g.no b → g'.no b) ∧ (∀ k,g'.al k → g.al k ∧ g'.be k = g.be k ∧ g'.sz k = g.sz k) ∧ KeepsF w w g g'
theorem GhostM.refl (base : Nat) (m : Mem) : GhostM base m m:=fun _ g h=>⟨g,h,fun _ h=>h,fun _ h=>h,fun _ h=>⟨h,rfl,rfl⟩,.id⟩
theorem GhostM.trans {base : Nat} {m m1 m2 : Mem} (h : GhostM base m m1) (h2 : GhostM base m1 m2) : GhostM base m m2:=fun w g hm=>by
 obtain ⟨g1,a1,a2,a3,a4,a5⟩:=h w g hm
 obtain ⟨g2,b1,b2,b3,b4,b5⟩:=h2 w g1 a1
 exact ⟨g2,b1,fun b hb=>b2 b (a2 b hb),fun b hb=>b3 b (a3 b hb),fun k hk=>⟨(a4 k (b4 k hk).1).1,(b4 k hk).2.1.trans (a4 k (b4 k hk).1).2.1,(b4 k hk).2.2.trans (a4 k (b4 k hk).1).2.2⟩,fun b hb=>⟨(b5.fr b (a5.fr b hb).1).1,rfl⟩,fun b n hb=>b5.jd b n (a5.jd b n hb),fun b hb=>(b5.fn b (a5.fr b hb).1).trans (a5.fn b hb)⟩
theorem GhostM.same {base : Nat} {m m' : Mem} (h : ∀ k,mget m' k = mget m k) : GhostM base m m':=fun w g hm=>⟨g,by rw [show mget m' = mget m from funext h];exact hm,fun _ h=>h,fun _ h=>h,fun _ h=>⟨h,rfl,rfl⟩,.id⟩
open Go Go.RowKit
def burnT : (t : Ty) → List (El t) → AV
 | .boxF,l=>.vec .boxJ l
 | .chunkF,l=>.vec .chunkJ l
 | .chunkC,l=>.vec .chunkK l
 | .boxM,_=>.top
 | t,l=>.vec t l
mutual
def burnV : AV → AV
 | .fec j t l=>match j with|true=>.fec true t l|false=>(match leafB t with|true=>.fec true t l|false=>burnT t l)
 | .vec t l=>burnT t l
 | .vptr _ _ _ _=>.top
 | .agg cs=>.agg (burnL cs)
 | .tup cs=>.tup (burnL cs)
 | .clo f a b=>.clo f (burnL a) (burnL b)
 | v=>v
def burnL : List AV → List AV
 | []=>[]
 | c :: r=>burnV c :: burnL r
end
def burnB : Blk → Blk
 | .box cs=>.box (burnL cs)
 | .row t l=>match fB t with|true=>.row t []|false=>.row t l
 | .mp ks cs=>.mp ks (burnL cs)
 | .pm ik F n=>.pm ik F n
def burnMem : Mem → Mem
 | []=>[]
 | (i,b) :: r=>(i,burnB b) :: burnMem r
theorem burnL_length : ∀ cs : List AV,(burnL cs).length = cs.length
 | []=>rfl
 | c :: r=>by simp only [burnL,List.length_cons];rw [burnL_length r]
theorem burnL_get {cs : List AV} {i : Nat} {c : AV} (h : (burnL cs)[i]? = some c) : ∃ c',cs[i]? = some c' ∧ c = burnV c':=by
 induction cs generalizing i with
 | nil=>simp [burnL] at h
 | cons a r ih =>
  simp only [burnL] at h
  cases i with
  | zero=>simp at h;exact ⟨a,by simp,h.symm⟩
  | succ i=>simp at h;simpa using ih h
theorem burnMem_get (m : Mem) (k : Nat) : mget (burnMem m) k = (mget m k).map burnB:=by
 induction m with
 | nil=>rfl
 | cons p r ih =>
  obtain ⟨i,b⟩:=p
  simp only [burnMem,mget]
  cases Nat.beq i k with
  | true=>rfl
  | false=>exact ih
def G.burn (w : World) (g : G) : G:={ g with ro:=fun b=>g.ro b ∨ (g.fr b ∧ g.fn b),fr:=fun _=>False,jd:=fun b n=>g.jd b n ∨ ((g.fr b ∧ ¬ g.fn b) ∧ ∃ c ty,w.heap[b]? = some (.cells c ty (0,0)) ∧ c.size = n) }
theorem flat_burnB (l : List Box) : flat .boxJ l = (flat .boxF l).map burnV:=by
 unfold flat
 rw [List.map_flatMap];rfl
theorem flat_burnC (l : List Chunk) : flat .chunkJ l = (flat .chunkF l).map burnV:=by
 unfold flat
 rw [List.map_flatMap];rfl
theorem flat_burnK (l : List Chunk) : flat .chunkK l = (flat .chunkC l).map burnV:=by
 unfold flat
 rw [List.map_flatMap];rfl
theorem burn_J {t : Ty} (ht : t = .boxJ ∨ t = .chunkJ ∨ t = .chunkK) {l : List (El t)} {i : Nat} {c : AV} (h : (flat t l)[i]? = some c) : burnV c = c:=by
 have hm:=List.mem_of_getElem? h
 simp only [flat,List.mem_flatMap] at hm
 obtain ⟨e,_,hc⟩:=hm
 rcases ht with rfl|rfl|rfl<;>simp [cells] at hc<;>(repeat' (first|(subst hc;rfl)|(rcases hc with hc|hc)))
theorem burnT_id {t : Ty} (h : fB t = false) (l : List (El t)) : burnT t l = .vec t l:=by cases t<;>first|rfl|cases h
theorem burnB_get {l : List Box} {i : Nat} {c : AV} (hi : (flat .boxJ l)[i]? = some c) : ∃ c',(flat .boxF l)[i]? = some c' ∧ c = burnV c':=by
 rw [flat_burnB,List.getElem?_map] at hi
 cases hg : (flat .boxF l)[i]? with
 | none=>rw [hg] at hi;cases hi
 | some c'=>rw [hg] at hi;exact ⟨c',rfl,by simpa using hi.symm⟩
theorem burnC_get {l : List Chunk} {i : Nat} {c : AV} (hi : (flat .chunkJ l)[i]? = some c) : ∃ c',(flat .chunkF l)[i]? = some c' ∧ c = burnV c':=by
 rw [flat_burnC,List.getElem?_map] at hi
 cases hg : (flat .chunkF l)[i]? with
 | none=>rw [hg] at hi;cases hi
 | some c'=>rw [hg] at hi;exact ⟨c',rfl,by simpa using hi.symm⟩
theorem burnK_get {l : List Chunk} {i : Nat} {c : AV} (hi : (flat .chunkK l)[i]? = some c) : ∃ c',(flat .chunkC l)[i]? = some c' ∧ c = burnV c':=by
 rw [flat_burnK,List.getElem?_map] at hi
 cases hg : (flat .chunkC l)[i]? with
 | none=>rw [hg] at hi;cases hi
 | some c'=>rw [hg] at hi;exact ⟨c',rfl,by simpa using hi.symm⟩
theorem burn_id {t : Ty} (ht : fB t = false) {l : List (El t)} {i : Nat} {c : AV} (h : (flat t l)[i]? = some c) : burnV c = c:=by
 have hm:=List.mem_of_getElem? h
 simp only [flat,List.mem_flatMap] at hm
 obtain ⟨e,_,hc⟩:=hm
 cases t<;>first|(cases ht;done)|(simp [cells] at hc<;>(repeat' (first|(subst hc;rfl)|(rcases hc with hc|hc))))
theorem Rep.burnVec {w : World} {g' : G} {lim : Nat} {t : Ty} {l : List (El t)} {b o cap : Nat} {xs : Nat → Value} (hc : l.length ≤ cap) (hr : g'.ro b)
  (hw : ∀ (i : Nat) c,(flat t l)[i]? = some c → w.cell? ⟨b,o + i,none⟩ = some (xs i)) (ih : ∀ (i : Nat) c,(flat t l)[i]? = some c → Rep w g' lim (burnV c) (xs i)) :
  Rep w g' lim (burnT t l) (.slice (some ⟨b,o,none⟩) l.length cap):=by
 cases hf : fB t with
 | false =>
  rw [burnT_id hf]
  exact .vec t l b o cap xs hc hr hw fun i c hi=>by have:=ih i c hi;rwa [burn_id hf hi] at this
 | true =>
  cases t<;>first|(cases hf;done)|skip
  case boxM=>exact .top _
  case boxF=>exact .vec .boxJ l b o cap xs hc hr (fun i c hi=>by obtain ⟨c',h1,_⟩:=burnB_get hi;exact hw i c' h1) fun i c hi=>by obtain ⟨c',h1,rfl⟩:=burnB_get hi;exact ih i c' h1
  case chunkF=>exact .vec .chunkJ l b o cap xs hc hr (fun i c hi=>by obtain ⟨c',h1,_⟩:=burnC_get hi;exact hw i c' h1) fun i c hi=>by obtain ⟨c',h1,rfl⟩:=burnC_get hi;exact ih i c' h1
  case chunkC=>exact .vec .chunkK l b o cap xs hc hr (fun i c hi=>by obtain ⟨c',h1,_⟩:=burnK_get hi;exact hw i c' h1) fun i c hi=>by obtain ⟨c',h1,rfl⟩:=burnK_get hi;exact ih i c' h1
  case boxJ=>exact .vec .boxJ l b o cap xs hc hr hw fun i c hi=>by have:=ih i c hi;rwa [burn_J (.inl rfl) hi] at this
  case chunkJ=>exact .vec .chunkJ l b o cap xs hc hr hw fun i c hi=>by have:=ih i c hi;rwa [burn_J (.inr (.inl rfl)) hi] at this
  case chunkK=>exact .vec .chunkK l b o cap xs hc hr hw fun i c hi=>by have:=ih i c hi;rwa [burn_J (.inr (.inr rfl)) hi] at this
theorem Rep.burn {w : World} {g : G} {lim : Nat} {v : AV} {x : Value} (hj : FJ w g) (h : Rep w g lim v x) : Rep w (g.burn w) lim (burnV v) x:=by
 have keep : ∀ {v : AV} {x : Value},nofV v = true → Rep w g lim v x → Rep w (g.burn w) lim v x:=fun hn h =>
  Rep.monoF (g:=g) (g':=g.burn w) ⟨fun _ h=>.inl h,fun _ _=>rfl⟩ (Nat.le_refl _) h (.inl hn) fun _ _ _ ha=>⟨ha,rfl,rfl⟩
 induction h with
 | top x=>exact .top x
 | tt=>exact .tt
 | ff=>exact .ff
 | lit v=>exact .lit v
 | agg cs xs hl h ih=>exact .agg _ xs (by rw [burnL_length];exact hl) fun i c x hc hx=>by obtain ⟨c',h1,rfl⟩:=burnL_get hc;exact ih i c' x h1 hx
 | tup cs xs hl h ih=>exact .tup _ xs (by rw [burnL_length];exact hl) fun i c x hc hx=>by obtain ⟨c',h1,rfl⟩:=burnL_get hc;exact ih i c' x h1 hx
 | vecE t a cap =>
  cases t<;>first|exact .vecE _ a cap|exact .top _
 | vec t l b o cap xs hc hr hw h ih=>exact Rep.burnVec hc (.inl hr) hw ih
 | emp t a=>exact .emp t a
 | bl p q b hp hq=>exact .bl p q b hp hq
 | own t j off len b cap c hkl hc hcc h=>exact .own t j off len b cap c hkl hc hcc h
 | ownE t j off c ad hkl hcc=>exact .ownE t j off c ad hkl hcc
 | ptr j off b hkl h=>exact .ptr j off b hkl h
 | rptr t j i off b hkl h=>exact .rptr t j i off b hkl h
 | vptr t l i off b o xs hr hw h ih =>
  exact .top _
 | mp j b hkl h=>exact .mp j b hkl h
 | clo fn fs cs fs' cs' hl h hl' h' ih ih' =>
  exact .clo fn _ _ fs' cs' (by rw [burnL_length];exact hl) (fun i c x hc hx=>by obtain ⟨c',h1,rfl⟩:=burnL_get hc;exact ih i c' x h1 hx)
   (by rw [burnL_length];exact hl') (fun i c x hc hx=>by obtain ⟨c',h1,rfl⟩:=burnL_get hc;exact ih' i c' x h1 hx)
 | fecE j t a cap =>
  cases j with
  | true=>exact .fecE true t a cap
  | false =>
   show Rep w _ lim (match leafB t with|true=>.fec true t []|false=>burnT t []) _
   cases leafB t with
   | true=>exact .fecE true t a cap
   | false=>cases t<;>first|exact .vecE _ a cap|exact .top _
 | fec t l b o cap xs hc hr hg hw h ih =>
  show Rep w _ lim (match leafB t with|true=>.fec true t l|false=>burnT t l) _
  cases hlf : leafB t with
  | false=>exact Rep.burnVec hc (.inr ⟨hr,hg.2 hlf⟩) hw ih
  | true =>
   have hnf : ¬ g.fn b:=fun hf=>by have:=hg.1 hf;rw [hlf] at this;cases this
   by_cases hl0 : l = []
   ·subst hl0;exact .fecE true t _ cap
   obtain ⟨c,ty,h1⟩:=hj.fz b hr
   refine .jec t l b o cap c.size hc (.inr ⟨⟨hr,hnf⟩,c,ty,h1,rfl⟩) ?_
   have hp:=csz_pos t
   have hpos : 0 < l.length * csz t:=Nat.mul_pos (List.length_pos_iff.2 hl0) hp
   have hlt : l.length * csz t - 1 < (flat t l).length:=by rw [flat_length];omega
   have h2:=hw (l.length * csz t - 1) _ (List.getElem?_eq_getElem hlt)
   rw [cell_of_row w _ _ c ty _ h1] at h2
   have h3:=(Array.getElem?_eq_some_iff.1 h2).1
   omega
 | jec t l b o cap n hc hr hn=>exact .jec t l b o cap n hc (.inl hr) hn
 | fptr t m i off b o n hr hn=>exact .fptr t m i off b o n (.inl hr) hn
 | sl a n c=>exact .sl a n c
theorem Sim.burn {w : World} {g : G} {lim : Nat} {f : List AV} {m : Mem} {a : Act} (h : Sim w g lim f (mget m) a) : Sim w (g.burn w) lim (burnL f) (mget (burnMem m)) a:=by
 have hj:=h.me.fj
 have hL : ∀ {cs : List AV} {c : Array Value},(∀ (i : Nat) a x,cs[i]? = some a → c[i]? = some x → Rep w g lim a x) → ∀ (i : Nat) a x,(burnL cs)[i]? = some a → c[i]? = some x → Rep w (g.burn w) lim a x:=fun h i a x ha hx=>by
  obtain ⟨a',h1,rfl⟩:=burnL_get ha;exact (h i a' x h1 hx).burn hj
 refine ⟨⟨by rw [burnL_length];exact h.fr.1,hL h.fr.2⟩,h.df,⟨fun k=>by rw [burnMem_get];exact (h.me.al k).trans (by simp),h.me.lt,fun k hk hz hr=>?_,h.me.inj,fun k b hb=>?_,fun b hb=>?_,fun b hb=>⟨(h.me.nof b hb).1,fun hr=>?_,(h.me.nof b hb).2.2⟩,⟨fun b hb=>hb.elim,fun b n hb=>?_,fun _ _ _ h=>h,fun b hb=>?_,fun b hb=>?_⟩⟩⟩
 ·rcases hr with hr|hr
  ·exact h.me.nro k hk hz hr
  ·exact hj.nal _ (.inl hr.1) k hk hz rfl
 ·rw [burnMem_get] at hb
  cases hm : mget m k with
  | none=>rw [hm] at hb;cases hb
  | some b0 =>
  rw [hm] at hb
  obtain rfl : burnB b0 = b:=by simpa using hb
  have h0:=h.me.blk k b0 hm
  cases b0 with
  | box cs =>
   obtain ⟨z0,c,ty,h1,h2,h3,h4⟩:=h0
   exact ⟨z0,c,ty,h1,h2,by rw [burnL_length];exact h3,hL h4⟩
  | mp ks cs =>
   obtain ⟨z0,hl,c,ty,h1,h2,h3,h4⟩:=h0
   exact ⟨z0,by rw [burnL_length];exact hl,c,ty,h1,by rw [burnL_length];exact h2,h3,fun i a x ha hx=>by obtain ⟨a',h5,rfl⟩:=burnL_get ha;exact (h4 i a' x h5 hx).burn hj⟩
  | pm _ _ _=>exact h0
  | row t l =>
   simp only [burnB]
   cases hf : fB t with
   | true =>
    rcases h0 with ⟨z0,_⟩|⟨z0,c,ty,h1,h2,h3,h4⟩
    ·exact .inl ⟨z0,rfl⟩
    ·exact .inr ⟨z0,c,ty,h1,h2,by simp [flat],fun i a x ha=>by simp [flat] at ha⟩
   | false =>
    rcases h0 with h0|⟨z0,c,ty,h1,h2,h3,h4⟩
    ·exact .inl h0
    ·exact .inr ⟨z0,c,ty,h1,h2,h3,fun i a x ha hx=>Rep.monoF (g:=g) (g':=g.burn w) ⟨fun _ h=>.inl h,fun _ _=>rfl⟩ (Nat.le_refl _) (h4 i a x ha hx) (.inl (nof_flat hf ha)) fun _ _ _ ha=>⟨ha,rfl,rfl⟩⟩
 ·rcases hb with hb|hb
  ·exact h.me.rolt b hb
  ·exact hj.lt (.inl hb.1)
 ·rcases hr with hr|hr
  ·exact (h.me.nof b hb).2.1 hr
  ·exact (hj.nro b (.inl hr.1)).2 hb
 ·rcases hb with hb|⟨_,hb⟩
  ·exact hj.jz b n hb
  ·exact hb
 ·rcases hb with hb|⟨n,hb|⟨hb,_⟩⟩
  ·exact hb.elim
  ·refine ⟨fun hr=>?_,(hj.nro b (.inr ⟨n,hb⟩)).2⟩
   rcases hr with hr|hr
   ·exact (hj.nro b (.inr ⟨n,hb⟩)).1 hr
   ·exact hj.jf b n hb hr.1
  ·refine ⟨fun hr=>?_,(hj.nro b (.inl hb.1)).2⟩
   rcases hr with hr|hr
   ·exact (hj.nro b (.inl hb.1)).1 hr
   ·exact hb.2 hr.2
 ·rcases hb with hb|⟨n,hb|⟨hb,_⟩⟩
  ·exact hb.elim
  ·exact hj.nal b (.inr ⟨n,hb⟩)
  ·exact hj.nal b (.inl hb.1)
theorem Runs.burn {P : Program} {base : Nat} {c : Code} {Q : Post} {f : List AV} {m : Mem} (h : Runs P base c Q (burnL f) (burnMem m)) : Runs P base c Q f m:=
 ⟨fun w g a hs=>Code.wp_mono (fun _ _ _ ⟨ae,f',m',g',e1,e2,e3,ht,hl⟩=>⟨ae,f',m',g',e1,e2,e3,⟨ht.os,ht.tape,ht.output,ht.size,fun b hb=>ht.same b (.inl hb),ht.others⟩,⟨fun b hb=>hl.ro b (.inl hb),hl.no,hl.al⟩⟩) (h.go w (g.burn w) a hs.burn)⟩
mutual
def mixV (k : Nat) : AV → AV
 | .own t j o n c=>match Nat.beq j k with|true=>(match Nat.beq (csz t) 2 with|true=>.own .boxM j o n c|false=>.top)|false=>.own t j o n c
 | .agg cs=>.agg (mixL k cs)
 | .tup cs=>.tup (mixL k cs)
 | v=>v
def mixL (k : Nat) : List AV → List AV
 | []=>[]
 | c :: r=>mixV k c :: mixL k r
end
def mixB (k j : Nat) : Blk → Blk
 | .box cs=>.box (mixL k cs)
 | .row t l=>match Nat.beq j k with
  | true=>(match t,l with|.box,l=>.row .boxM (l.map fun b=>(false,b))|t,l=>.row t l)
  | false=>.row t l
 | b=>b
def mixMem (k : Nat) : Mem → Mem
 | []=>[]
 | (i,b) :: r=>(i,mixB k i b) :: mixMem k r
theorem mixL_length (k : Nat) : ∀ cs : List AV,(mixL k cs).length = cs.length
 | []=>rfl
 | c :: r=>by simp only [mixL,List.length_cons];rw [mixL_length k r]
theorem mixL_get {k : Nat} {cs : List AV} {i : Nat} {c : AV} (h : (mixL k cs)[i]? = some c) : ∃ c',cs[i]? = some c' ∧ c = mixV k c':=by
 induction cs generalizing i with
 | nil=>simp [mixL] at h
 | cons a r ih =>
  simp only [mixL] at h
  cases i with
  | zero=>simp at h;exact ⟨a,by simp,h.symm⟩
  | succ i=>simp at h;simpa using ih h
theorem mixMem_get (k : Nat) (m : Mem) (j : Nat) : mget (mixMem k m) j = (mget m j).map (mixB k j):=by
 induction m with
 | nil=>rfl
 | cons p r ih =>
  obtain ⟨i,b⟩:=p
  simp only [mixMem,mget]
  cases hi : Nat.beq i j with
  | true=>rw [nbt.1 hi];rfl
  | false=>exact ih
theorem flat_mix0 (l : List Box) : flat .boxM (l.map fun b=>(false,b)) = flat .box l:=by
 unfold flat
 rw [List.flatMap_map]
 rfl
theorem Rep.toMix {w : World} {g : G} {lim : Nat} {v : AV} {x : Value} (k : Nat) (h : Rep w g lim v x) : Rep w g lim (mixV k v) x:=by
 induction h with
 | agg cs xs hl h ih=>exact .agg _ xs (by rw [mixL_length];exact hl) fun i c x hc hx=>by obtain ⟨c',h1,rfl⟩:=mixL_get hc;exact ih i c' x h1 hx
 | tup cs xs hl h ih=>exact .tup _ xs (by rw [mixL_length];exact hl) fun i c x hc hx=>by obtain ⟨c',h1,rfl⟩:=mixL_get hc;exact ih i c' x h1 hx
 | own t j off len b cap c hkl hc hcc h =>
  simp only [mixV]
  cases Nat.beq j k with
  | false=>exact .own t j off len b cap c hkl hc hcc h
  | true =>
   cases hz : Nat.beq (csz t) 2 with
   | false=>exact .top _
   | true=>exact own_csz (t':=.boxM) (nbt.1 hz) (.own t j off len b cap c hkl hc hcc h)
 | ownE t j off c ad hkl hcc =>
  simp only [mixV]
  cases Nat.beq j k with
  | false=>exact .ownE t j off c ad hkl hcc
  | true =>
   cases hz : Nat.beq (csz t) 2 with
   | false=>exact .top _
   | true=>exact .ownE .boxM j off c ad hkl hcc
 | top x=>exact .top x
 | tt=>exact .tt
 | ff=>exact .ff
 | lit v=>exact .lit v
 | vecE t a cap=>exact .vecE t a cap
 | vec t l b o cap xs hc hr hw h ih=>exact .vec t l b o cap xs hc hr hw h
 | emp t a=>exact .emp t a
 | bl p q b hp hq=>exact .bl p q b hp hq
 | ptr j off b hkl h=>exact .ptr j off b hkl h
 | rptr t j i off b hkl h=>exact .rptr t j i off b hkl h
 | vptr t l i off b o xs hr hw h ih=>exact .vptr t l i off b o xs hr hw h
 | mp j b hkl h=>exact .mp j b hkl h
 | clo fn fs cs fs' cs' hl h hl' h' ih ih'=>exact .clo fn fs cs fs' cs' hl h hl' h'
 | fecE j t a cap=>exact .fecE j t a cap
 | fec t l b o cap xs hc hr hg hw h ih=>exact .fec t l b o cap xs hc hr hg hw h
 | jec t l b o cap n hc hr hn=>exact .jec t l b o cap n hc hr hn
 | fptr t m i off b o n hr hn=>exact .fptr t m i off b o n hr hn
 | sl a n c=>exact .sl a n c
theorem Sim.mix {w : World} {g : G} {lim : Nat} {f : List AV} {m : Mem} {a : Act} (k : Nat) (h : Sim w g lim f (mget m) a) : Sim w g lim (mixL k f) (mget (mixMem k m)) a:=by
 have hL : ∀ {cs : List AV} {c : Array Value},(∀ (i : Nat) a x,cs[i]? = some a → c[i]? = some x → Rep w g lim a x) → ∀ (i : Nat) a x,(mixL k cs)[i]? = some a → c[i]? = some x → Rep w g lim a x:=fun h i a x ha hx=>by
  obtain ⟨a',h1,rfl⟩:=mixL_get ha;exact (h i a' x h1 hx).toMix k
 refine ⟨⟨by rw [mixL_length];exact h.fr.1,hL h.fr.2⟩,h.df,⟨fun j=>by rw [mixMem_get];simpa using h.me.al j,h.me.lt,h.me.nro,h.me.inj,fun j b hb=>?_,h.me.rolt,h.me.nof,h.me.fj⟩⟩
 rw [mixMem_get] at hb
 cases hm : mget m j with
 | none=>rw [hm] at hb;cases hb
 | some b0 =>
 rw [hm] at hb
 obtain rfl : mixB k j b0 = b:=by simpa using hb
 have h0:=h.me.blk j b0 hm
 cases b0 with
 | box cs =>
  obtain ⟨z0,c,ty,h1,h2,h3,h4⟩:=h0
  exact ⟨z0,c,ty,h1,h2,by rw [mixL_length];exact h3,hL h4⟩
 | mp ks cs=>exact h0
 | pm _ _ _=>exact h0
 | row t l =>
  simp only [mixB]
  cases Nat.beq j k with
  | false=>exact h0
  | true =>
   simp only
   split
   ·rename_i l
    rcases h0 with ⟨z0,h0⟩|⟨z0,c,ty,h1,h2,h3,h4⟩
    ·exact .inl ⟨z0,by rw [h0];rfl⟩
    ·exact .inr ⟨z0,c,ty,h1,h2,by rw [flat_mix0];exact h3,fun i a x ha hx=>h4 i a x (by rw [← flat_mix0];exact ha) hx⟩
   ·exact h0
theorem Runs.mix {P : Program} {base : Nat} {c : Code} {Q : Post} {f : List AV} {m : Mem} (k : Nat) (h : Runs P base c Q (mixL k f) (mixMem k m)) : Runs P base c Q f m:=
 ⟨fun w g a hs=>h.go w g a (hs.mix k)⟩
def mixF (i : Nat) (l n : List Box) : List (Bool × Box):=(n.take i).map (fun b=>(true,b)) ++ (l.drop i).map fun b=>(false,b)
mutual
def dropV : AV → AV
 | .fec _ _ _=>.sl
 | .vec t l=>match fB t with|true=>.sl|false=>.vec t l
 | .agg cs=>.agg (dropL cs)
 | .tup cs=>.tup (dropL cs)
 | v=>v
def dropL : List AV → List AV
 | []=>[]
 | c :: r=>dropV c :: dropL r
end
theorem dropL_length : ∀ cs : List AV,(dropL cs).length = cs.length
 | []=>rfl
 | c :: r=>by simp only [dropL,List.length_cons];rw [dropL_length r]
theorem dropL_get {cs : List AV} {i : Nat} {c : AV} (h : (dropL cs)[i]? = some c) : ∃ c',cs[i]? = some c' ∧ c = dropV c':=by
 induction cs generalizing i with
 | nil=>simp [dropL] at h
 | cons a r ih =>
  simp only [dropL] at h
  cases i with
  | zero=>simp at h;exact ⟨a,by simp,h.symm⟩
  | succ i=>simp at h;simpa using ih h
theorem Rep.drop {w : World} {g : G} {lim : Nat} {v : AV} {x : Value} (h : Rep w g lim v x) : Rep w g lim (dropV v) x:=by
 induction h with
 | agg cs xs hl h ih=>exact .agg _ xs (by rw [dropL_length];exact hl) fun i c x hc hx=>by obtain ⟨c',h1,rfl⟩:=dropL_get hc;exact ih i c' x h1 hx
 | tup cs xs hl h ih=>exact .tup _ xs (by rw [dropL_length];exact hl) fun i c x hc hx=>by obtain ⟨c',h1,rfl⟩:=dropL_get hc;exact ih i c' x h1 hx
 | vecE t a cap =>
  simp only [dropV]
  cases fB t with
  | true=>exact .sl _ _ _
  | false=>exact .vecE t a cap
 | vec t l b o cap xs hc hr hw h ih =>
  simp only [dropV]
  cases fB t with
  | true=>exact .sl _ _ _
  | false=>exact .vec t l b o cap xs hc hr hw h
 | fecE j t a cap=>exact .sl _ _ _
 | fec t l b o cap xs hc hr hg hw h ih=>exact .sl _ _ _
 | jec t l b o cap n hc hr hn=>exact .sl _ _ _
 | top x=>exact .top x
 | tt=>exact .tt
 | ff=>exact .ff
 | lit v=>exact .lit v
 | own t j off len b cap c hkl hc hcc h=>exact .own t j off len b cap c hkl hc hcc h
 | ownE t j off c ad hkl hcc=>exact .ownE t j off c ad hkl hcc
 | emp t a=>exact .emp t a
 | bl p q b hp hq=>exact .bl p q b hp hq
 | ptr j off b hkl h=>exact .ptr j off b hkl h
 | rptr t j i off b hkl h=>exact .rptr t j i off b hkl h
 | vptr t l i off b o xs hr hw h ih=>exact .vptr t l i off b o xs hr hw h
 | mp j b hkl h=>exact .mp j b hkl h
 | clo fn fs cs fs' cs' hl h hl' h' ih ih'=>exact .clo fn fs cs fs' cs' hl h hl' h'
 | fptr t m i off b o n hr hn=>exact .fptr t m i off b o n hr hn
 | sl a n c=>exact .sl a n c
open Go Go.RowKit
def unT : (t : Ty) → List (El t) → AV
 | .boxF,l=>.vec .box l
 | .chunkF,l=>.vec .chunk l
 | .chunkC,l=>.vec .chunk l
 | .chunkK,_=>.sl
 | .boxM,_=>.sl
 | .boxJ,_=>.sl
 | .chunkJ,_=>.sl
 | t,l=>.vec t l
mutual
def unV : AV → AV
 | .fec j t l=>match j with|true=>.sl|false=>unT t l
 | .vec t l=>unT t l
 | .agg cs=>.agg (unL cs)
 | .tup cs=>.tup (unL cs)
 | .vptr t l i o=>.vptr t l i o
 | .fptr t n i o=>.fptr t n i o
 | v=>v
def unL : List AV → List AV
 | []=>[]
 | c :: r=>unV c :: unL r
end
theorem unL_length : ∀ cs : List AV,(unL cs).length = cs.length
 | []=>rfl
 | c :: r=>by simp only [unL,List.length_cons];rw [unL_length r]
theorem unL_get {cs : List AV} {i : Nat} {c : AV} (h : (unL cs)[i]? = some c) : ∃ c',cs[i]? = some c' ∧ c = unV c':=by
 induction cs generalizing i with
 | nil=>simp [unL] at h
 | cons a r ih =>
  simp only [unL] at h
  cases i with
  | zero=>simp at h;exact ⟨a,by simp,h.symm⟩
  | succ i=>simp at h;simpa using ih h
mutual
def newV : AV → Bool
 | .own _ _ _ _ _=>false
 | .ptr _ _=>false
 | .rptr _ _ _ _=>false
 | .mp _=>false
 | .vptr _ _ _ _=>false
 | .fptr _ _ _ _=>false
 | .clo _ _ _=>false
 | .agg cs=>newL cs
 | .tup cs=>newL cs
 | _=>true
def newL : List AV → Bool
 | []=>true
 | c :: r=>match newV c with|true=>newL r|false=>false
end
theorem newL_get {cs : List AV} (h : newL cs = true) {i : Nat} {c : AV} (hc : cs[i]? = some c) : newV c = true:=by
 induction cs generalizing i with
 | nil=>simp at hc
 | cons a r ih =>
  simp only [newL] at h
  cases ha : newV a with
  | false=>rw [ha] at h;cases h
  | true =>
   rw [ha] at h
   cases i with
   | zero=>simp at hc;subst hc;exact ha
   | succ i=>simp at hc;exact ih h hc
theorem new_cells {t : Ty} {e : El t} {c : AV} (h : c ∈ cells t e) : newV c = true:=by
 cases t
 case boxM=>obtain ⟨f,e⟩:=e;cases f<;>simp [cells,bagM] at h<;>(repeat' (first|(subst h;rfl)|(rcases h with h|h)))
 all_goals simp [cells] at h<;>(repeat' (first|(subst h;rfl)|(rcases h with h|h)))
theorem new_flat {t : Ty} {l : List (El t)} {i : Nat} {c : AV} (h : (flat t l)[i]? = some c) : newV c = true:=by
 have hm:=List.mem_of_getElem? h
 simp only [flat,List.mem_flatMap] at hm
 obtain ⟨e,_,hc⟩:=hm
 exact new_cells hc
theorem flat_unB (l : List Box) : flat .box l = (flat .boxF l).map unV:=by
 unfold flat
 rw [List.map_flatMap];rfl
theorem flat_unC (l : List Chunk) : flat .chunk l = (flat .chunkF l).map unV:=by
 unfold flat
 rw [List.map_flatMap];rfl
theorem flat_unK (l : List Chunk) : flat .chunk l = (flat .chunkC l).map unV:=by
 unfold flat
 rw [List.map_flatMap];rfl
theorem unT_id {t : Ty} (h : fB t = false) (l : List (El t)) : unT t l = .vec t l:=by cases t<;>first|rfl|cases h
theorem un_cells {t : Ty} (ht : fB t = false) {e : El t} {c : AV} (h : c ∈ cells t e) : unV c = c:=by
 cases t<;>first|(cases ht;done)|(simp [cells] at h<;>(repeat' (first|(subst h;rfl)|(rcases h with h|h))))
theorem un_flat {t : Ty} (ht : fB t = false) {l : List (El t)} {i : Nat} {c : AV} (h : (flat t l)[i]? = some c) : unV c = c:=by
 have hm:=List.mem_of_getElem? h
 simp only [flat,List.mem_flatMap] at hm
 obtain ⟨e,_,hc⟩:=hm
 exact un_cells ht hc
theorem unB_get {l : List Box} {i : Nat} {c : AV} (hi : (flat .box l)[i]? = some c) : ∃ c',(flat .boxF l)[i]? = some c' ∧ c = unV c':=by
 rw [flat_unB,List.getElem?_map] at hi
 cases hg : (flat .boxF l)[i]? with
 | none=>rw [hg] at hi;cases hi
 | some c'=>rw [hg] at hi;exact ⟨c',rfl,by simpa using hi.symm⟩
theorem unC_get {l : List Chunk} {i : Nat} {c : AV} (hi : (flat .chunk l)[i]? = some c) : ∃ c',(flat .chunkF l)[i]? = some c' ∧ c = unV c':=by
 rw [flat_unC,List.getElem?_map] at hi
 cases hg : (flat .chunkF l)[i]? with
 | none=>rw [hg] at hi;cases hi
 | some c'=>rw [hg] at hi;exact ⟨c',rfl,by simpa using hi.symm⟩
theorem unK_get {l : List Chunk} {i : Nat} {c : AV} (hi : (flat .chunk l)[i]? = some c) : ∃ c',(flat .chunkC l)[i]? = some c' ∧ c = unV c':=by
 rw [flat_unK,List.getElem?_map] at hi
 cases hg : (flat .chunkC l)[i]? with
 | none=>rw [hg] at hi;cases hi
 | some c'=>rw [hg] at hi;exact ⟨c',rfl,by simpa using hi.symm⟩
theorem Rep.unVec {w : World} {g' : G} {lim : Nat} {t : Ty} {l : List (El t)} {b o cap : Nat} {xs : Nat → Value} (hc : l.length ≤ cap) (hr : g'.ro b)
  (hw : ∀ (i : Nat) c,(flat t l)[i]? = some c → w.cell? ⟨b,o + i,none⟩ = some (xs i)) (ih : ∀ (i : Nat) c,(flat t l)[i]? = some c → Rep w g' lim (unV c) (xs i)) :
  Rep w g' lim (unT t l) (.slice (some ⟨b,o,none⟩) l.length cap):=by
 cases hf : fB t with
 | false =>
  rw [unT_id hf]
  exact .vec t l b o cap xs hc hr hw fun i c hi=>by have:=ih i c hi;rwa [un_flat hf hi] at this
 | true =>
  cases t<;>first|(cases hf;done)|skip
  case boxM=>exact .sl _ _ _
  case boxJ=>exact .sl _ _ _
  case chunkJ=>exact .sl _ _ _
  case chunkK=>exact .sl _ _ _
  case chunkC=>exact .vec .chunk l b o cap xs hc hr (fun i c hi=>by obtain ⟨c',h1,_⟩:=unK_get hi;exact hw i c' h1) fun i c hi=>by obtain ⟨c',h1,rfl⟩:=unK_get hi;exact ih i c' h1
  case boxF=>exact .vec .box l b o cap xs hc hr (fun i c hi=>by obtain ⟨c',h1,_⟩:=unB_get hi;exact hw i c' h1) fun i c hi=>by obtain ⟨c',h1,rfl⟩:=unB_get hi;exact ih i c' h1
  case chunkF=>exact .vec .chunk l b o cap xs hc hr (fun i c hi=>by obtain ⟨c',h1,_⟩:=unC_get hi;exact hw i c' h1) fun i c hi=>by obtain ⟨c',h1,rfl⟩:=unC_get hi;exact ih i c' h1
theorem Rep.un {w : World} {g g' : G} {lim lim' : Nat} {v : AV} {x : Value} (h1 : ∀ b,g.ro b ∨ g.fr b → g'.ro b) (hn : newV v = true) (h : Rep w g lim v x) : Rep w g' lim' (unV v) x:=by
 induction h with
 | top x=>exact .top x
 | tt=>exact .tt
 | ff=>exact .ff
 | lit v=>exact .lit v
 | agg cs xs hl h ih=>exact .agg _ xs (by rw [unL_length];exact hl) fun i c x hc hx=>by obtain ⟨c',h1,rfl⟩:=unL_get hc;exact ih i c' x h1 hx (newL_get hn h1)
 | tup cs xs hl h ih=>exact .tup _ xs (by rw [unL_length];exact hl) fun i c x hc hx=>by obtain ⟨c',h1,rfl⟩:=unL_get hc;exact ih i c' x h1 hx (newL_get hn h1)
 | vecE t a cap=>cases t<;>first|exact .vecE _ a cap|exact .sl _ _ _
 | vec t l b o cap xs hc hr hw h ih=>exact Rep.unVec hc (h1 b (.inl hr)) hw fun i c hi=>ih i c hi (new_flat hi)
 | emp t a=>exact .emp t a
 | bl p q b hp hq=>exact .bl p q b hp hq
 | own t j off len b cap c hkl hc hcc h=>cases hn
 | ownE t j off c ad hkl hcc=>cases hn
 | ptr j off b hkl h=>cases hn
 | rptr t j i off b hkl h=>cases hn
 | vptr t l i off b o xs hr hw h ih=>cases hn
 | mp j b hkl h=>cases hn
 | clo fn fs cs fs' cs' hl h hl' h' ih ih'=>cases hn
 | fecE j t a cap =>
  cases j with
  | true=>exact .sl _ _ _
  | false=>cases t<;>first|exact .vecE _ a cap|exact .sl _ _ _
 | fec t l b o cap xs hc hr hg hw h ih=>exact Rep.unVec hc (h1 b (.inr hr)) hw fun i c hi=>ih i c hi (new_flat hi)
 | jec t l b o cap n hc hr hn=>exact .sl _ _ _
 | fptr t m i off b o n hr hn9=>cases hn
 | sl a n c=>exact .sl a n c
def rowB (t : Ty) : Bool:=match leafB t with|true=>true|false=>(match t with|.boxF=>true|_=>false)
mutual
def resB : AV → Bool
 | .fec _ t _=>rowB t
 | .top=>true
 | .tt=>true
 | .ff=>true
 | .emp _=>true
 | .bl _ _=>true
 | .lit _=>true
 | .sl=>true
 | .agg cs=>resL cs
 | .tup cs=>resL cs
 | _=>false
def resL : List AV → Bool
 | []=>true
 | c :: r=>match resB c with|true=>resL r|false=>false
end
theorem resL_get {cs : List AV} (h : resL cs = true) {i : Nat} {c : AV} (hc : cs[i]? = some c) : resB c = true:=by
 induction cs generalizing i with
 | nil=>simp at hc
 | cons a r ih =>
  simp only [resL] at h
  cases ha : resB a with
  | false=>rw [ha] at h;cases h
  | true =>
   rw [ha] at h
   cases i with
   | zero=>simp at hc;subst hc;exact ha
   | succ i=>simp at hc;exact ih h hc
theorem res_flat {t : Ty} (ht : rowB t = true) {l : List (El t)} {i : Nat} {c : AV} (h : (flat t l)[i]? = some c) : resB c = true:=by
 have hm:=List.mem_of_getElem? h
 simp only [flat,List.mem_flatMap] at hm
 obtain ⟨e,_,hc⟩:=hm
 cases t<;>first|(cases ht;done)|(simp [cells] at hc<;>(repeat' (first|(subst hc;rfl)|(rcases hc with hc|hc))))
theorem Rep.res {w : World} {g g' : G} {lim lim' : Nat} {v : AV} {x : Value} (hF : KeepsF w w g g') (h : Rep w g lim v x) (hb : resB v = true) : Rep w g' lim' v x:=by
 induction h with
 | top x=>exact .top x
 | tt=>exact .tt
 | ff=>exact .ff
 | lit v=>exact .lit v
 | emp t a=>exact .emp t a
 | bl p q b h1 h2=>exact .bl p q b h1 h2
 | sl a n c=>exact .sl a n c
 | fecE j t a cap=>exact .fecE j t a cap
 | fec t l b o cap xs hc hr hg hw h ih=>exact .fec t l b o cap xs hc (hF.fr b hr).1 ((hF.fn b hr).trans hg) hw fun i c hi=>ih i c hi (res_flat hb hi)
 | jec t l b o cap n hc hr hn=>exact .jec t l b o cap n hc (hF.jd b n hr) hn
 | agg cs xs hl h ih=>exact .agg _ xs hl fun i c x hc hx=>ih i c x hc hx (resL_get hb hc)
 | tup cs xs hl h ih=>exact .tup _ xs hl fun i c x hc hx=>ih i c x hc hx (resL_get hb hc)
 | vecE _ _ _=>cases hb
 | vec _ _ _ _ _ _ _ _ _ _ _=>cases hb
 | own _ _ _ _ _ _ _ _ _ _ _=>cases hb
 | ownE _ _ _ _ _ _ _=>cases hb
 | ptr _ _ _ _ _=>cases hb
 | rptr _ _ _ _ _ _ _=>cases hb
 | vptr _ _ _ _ _ _ _ _ _ _ _=>cases hb
 | mp _ _ _ _=>cases hb
 | clo _ _ _ _ _ _ _ _ _ _ _=>cases hb
 | fptr _ _ _ _ _ _ _ _ _=>cases hb
theorem FJ.join2 {w w' : World} {g g' g2 : G} (h : FJ w g) (h' : FJ w' g') (hold : ∀ b,(g.fr b ∨ ∃ n,g.jd b n) → w'.heap[b]? = w.heap[b]?) (hno : ∀ b,(g.fr b ∨ ∃ n,g.jd b n) → g'.no b ∨ g'.ro b)
  (hro : ∀ b,((g.fr b ∨ ∃ n,g.jd b n) ∨ (g'.fr b ∨ ∃ n,g'.jd b n)) → ¬ g2.ro b ∧ ¬ g2.no b) (hal : ∀ b,((g.fr b ∨ ∃ n,g.jd b n) ∨ (g'.fr b ∨ ∃ n,g'.jd b n)) → ∀ k,g2.al k → 0 < g2.sz k → g2.be k ≠ b)
  (h1 : g2.fr = fun b=>g.fr b ∨ g'.fr b:=by rfl) (h2 : g2.jd = fun b n=>g.jd b n ∨ g'.jd b n:=by rfl) : FJ w' g2:=by
 have key : ∀ b,(g2.fr b ∨ ∃ n,g2.jd b n) → (g.fr b ∨ ∃ n,g.jd b n) ∨ (g'.fr b ∨ ∃ n,g'.jd b n):=fun b hb=>by
  rw [h1,h2] at hb
  rcases hb with (hb|hb)|⟨n,hb|hb⟩
  ·exact .inl (.inl hb)
  ·exact .inr (.inl hb)
  ·exact .inl (.inr ⟨n,hb⟩)
  ·exact .inr (.inr ⟨n,hb⟩)
 have no2 : ∀ b,(g'.fr b ∨ ∃ n,g'.jd b n) → (g.fr b ∨ ∃ n,g.jd b n) → False:=fun b hb hb2=>by
  rcases hno b hb2 with h3|h3
  ·exact (h'.nro b hb).2 h3
  ·exact (h'.nro b hb).1 h3
 refine ⟨fun b hb=>?_,fun b n hb=>?_,fun b n hb hf=>?_,fun b hb=>hro b (key b hb),fun b hb=>hal b (key b hb)⟩
 ·rw [h1] at hb
  rcases hb with hb|hb
  ·obtain ⟨c,ty,h3⟩:=h.fz b hb
   exact ⟨c,ty,(hold b (.inl hb)).trans h3⟩
  ·exact h'.fz b hb
 ·rw [h2] at hb
  rcases hb with hb|hb
  ·obtain ⟨c,ty,h3,h4⟩:=h.jz b n hb
   exact ⟨c,ty,(hold b (.inr ⟨n,hb⟩)).trans h3,h4⟩
  ·exact h'.jz b n hb
 ·rw [h2] at hb;rw [h1] at hf
  rcases hb with hb|hb<;>rcases hf with hf|hf
  ·exact h.jf b n hb hf
  ·exact no2 b (.inl hf) (.inr ⟨n,hb⟩)
  ·exact no2 b (.inr ⟨n,hb⟩) (.inl hf)
  ·exact h'.jf b n hb hf
theorem Api.un {P : Program} {fid : FuncId} {args argsV : List AV} {v : AV} (h : Api P fid argsV v) (ha : unL args = argsV) (hn : newL args = true) (hv : resB v = true) (base : Nat) : CAct P base fid args (vA v):=by
 refine ⟨fun m _ w g vs hm hr=>?_⟩
 let g0 : G:={ ro:=fun b=>g.ro b ∨ g.fr b,no:=fun b=>g.no b ∨ (∃ k,g.al k ∧ 0 < g.sz k ∧ g.be k = b) ∨ ∃ n,g.jd b n,al:=fun _=>False,be:=id,sz:=id,fr:=fun _=>False,jd:=fun _ _=>False,fn:=fun _=>False }
 have hm0 : MSim w g0 0 (mget []):=⟨fun k=>by simp [g0,mget],fun k hk=>hk.elim,fun k hk=>hk.elim,fun k j hk=>hk.elim,fun k b hb=>by simp [mget] at hb,fun b hb=>by
  rcases hb with hb|hb
  ·exact hm.rolt b hb
  ·exact hm.fj.lt (.inl hb),fun b hb=>by
  rcases hb with hb|⟨k,hk,hz,rfl⟩|hb
  ·refine ⟨(hm.nof b hb).1,fun hr=>?_,fun k hk=>hk.elim⟩
   rcases hr with hr|hr
   ·exact (hm.nof b hb).2.1 hr
   ·exact (hm.fj.nro b (.inl hr)).2 hb
  ·refine ⟨hm.lt_heap hk hz,fun hr=>?_,fun k hk=>hk.elim⟩
   rcases hr with hr|hr
   ·exact hm.nro k hk hz hr
   ·exact hm.fj.nal _ (.inl hr) k hk hz rfl
  ·refine ⟨hm.fj.lt (.inr hb),fun hr=>?_,fun k hk=>hk.elim⟩
   rcases hr with hr|hr
   ·exact (hm.fj.nro b (.inr hb)).1 hr
   ·obtain ⟨n,hb⟩:=hb
    exact hm.fj.jf b n hb hr,FJ.none (fun _ h=>h) (fun _ _ h=>h)⟩
 have hr0 : RepL w g0 0 argsV vs:=by
  rw [← ha]
  exact ⟨by rw [unL_length];exact hr.1,fun i c x hc hx=>by obtain ⟨c',h1,rfl⟩:=unL_get hc;exact (hr.2 i c' x h1 hx).un (fun _ h=>h) (newL_get hn h1)⟩
 refine (h w g0 vs hm0 hr0).mono fun e w' ⟨x,g',e1,e2,e3,e4,e5⟩=>?_
 let g2 : G:={ ro:=fun b=>g'.ro b ∧ ¬ g.fr b,no:=g.no,al:=g.al,be:=g.be,sz:=g.sz,fr:=fun b=>g.fr b ∨ g'.fr b,jd:=fun b n=>g.jd b n ∨ g'.jd b n,fn:=fun b=>(g.fr b ∧ g.fn b) ∨ (¬ g.fr b ∧ g'.fn b) }
 have hbe : ∀ k,g.al k → 0 < g.sz k → w'.heap[g.be k]? = w.heap[g.be k]?:=fun k hk hz=>e4.others _ (.inr (.inl ⟨k,hk,hz,rfl⟩))
 have hold : ∀ b,(g.fr b ∨ ∃ n,g.jd b n) → w'.heap[b]? = w.heap[b]?:=fun b hb=>by
  rcases hb with hb|hb
  ·exact e4.same b (.inr hb)
  ·exact e4.others b (.inr (.inr hb))
 have hkeep : Keeps w w' g g2:=⟨fun b hb=>⟨e5.ro b (.inl hb),fun hf=>(hm.fj.nro b (.inl hf)).1 hb⟩,fun b hb=>e4.same b (.inl hb),fun b hb=>⟨.inl hb,hold b (.inl hb)⟩,fun b n hb=>.inl hb,fun b hb=>⟨fun h=>h.elim (fun h=>h.2) (fun h=>absurd hb h.1),fun h=>.inl ⟨hb,h⟩⟩⟩
 refine ⟨x,g2,e1,e2.res ⟨fun _ h=>⟨.inr h,rfl⟩,fun _ _ h=>.inr h,fun b hb=>⟨fun h=>h.elim (fun h=>absurd (e5.ro b (.inr h.1)) (e3.fj.nro b (.inl hb)).1) (fun h=>h.2),fun h=>.inr ⟨fun hf=>(e3.fj.nro b (.inl hb)).1 (e5.ro b (.inr hf)),h⟩⟩⟩ hv,?_,⟨e4.os,e4.tape,e4.output,e4.size,fun b hb=>e4.same b (.inl hb),fun b hb=>e4.others b (.inl hb)⟩,⟨hkeep.ro,fun _ h=>h,fun _ _ ha=>⟨ha,rfl,rfl⟩⟩,fun fr xs hfr=>?_⟩
 ·refine ⟨hm.al,hm.lt,fun k hk hz hro=>?_,hm.inj,fun k b hb=>?_,fun b hb=>e3.rolt b hb.1,fun b hb=>?_,hm.fj.join2 e3.fj hold (fun b hb=>?_) (fun b hb=>?_) fun b hb k hk hz=>?_⟩
  ·exact (e3.nof _ (e5.no _ (.inr (.inl ⟨k,hk,hz,rfl⟩)))).2.1 hro.1
  ·have hal:=(hm.al k).2 (by simp only [vA,Act1.me,fgtsM,putsM] at hb;simp [hb])
   exact (hm.blk k b hb).mono' hkeep (Nat.le_refl _) (hbe k hal) fun _ _ _ ha=>⟨ha,rfl,rfl⟩
  ·have hn:=e3.nof b (e5.no b (.inl hb))
   exact ⟨hn.1,fun h=>hn.2.1 h.1,(hm.nof b hb).2.2⟩
  ·rcases hb with hb|hb
   ·exact .inr (e5.ro b (.inr hb))
   ·exact .inl (e5.no b (.inr (.inr hb)))
  ·rcases hb with (hb|hb)|hb
   ·exact ⟨fun h=>h.2 hb,(hm.fj.nro b (.inl hb)).2⟩
   ·exact ⟨fun h=>(e3.nof b (e5.no b (.inr (.inr hb)))).2.1 h.1,(hm.fj.nro b (.inr hb)).2⟩
   ·exact ⟨fun h=>(e3.fj.nro b hb).1 h.1,fun hn=>(e3.fj.nro b hb).2 (e5.no b (.inl hn))⟩
  ·rcases hb with hb|hb
   ·exact hm.fj.nal b hb k hk hz
   ·exact fun e=>(e3.fj.nro b hb).2 (e ▸ e5.no _ (.inr (.inl ⟨k,hk,hz,rfl⟩)))
 ·exact hfr.mono hkeep (Nat.le_refl _) fun _ _ ha=>⟨ha,rfl,rfl⟩
theorem kU {P : Program} {base : Nat} {fid : FuncId} {args argsV : List AV} {v : AV} (h : Api P fid argsV v) {f : List AV} {m : Mem} {d : Option Nat} {K : List AV → Mem → Prop} {J : Prop}
  (hK : applyK (vA v) f m d K) (ha : unL args = argsV:=by exact rfl) (hn : newL args = true:=by exact rfl) (hv : resB v = true:=by exact rfl) : (∃ c : Act1,(∀ p ∈ c.rd,mget m p.1 = some p.2) ∧ CAct P base fid args c ∧ applyK c f m d K) ∨ J:=
 .inl ⟨vA v,by simp [vA],h.un ha hn hv base,hK⟩
theorem kUD {P : Program} {base : Nat} {fid : FuncId} {args argsV : List AV} {v : AV} (h : Api P fid argsV v) {m : Mem} {K : Act1 → Prop}
  (hK : K (vA v)) (ha : unL args = argsV:=by exact rfl) (hn : newL args = true:=by exact rfl) (hv : resB v = true:=by exact rfl) : ∃ c : Act1,(∀ p ∈ c.rd,mget m p.1 = some p.2) ∧ CAct P base fid args c ∧ K c:=
 ⟨vA v,by simp [vA],h.un ha hn hv base,hK⟩
theorem Api.mix {P : Program} {fid : FuncId} {rest : List AV} {v : AV} {l : List Box} {k n : Nat} {c : Option Nat} {L : List (El .boxM)} (h : Api P fid (.vec .box l :: rest) v) (hl : n ≤ L.length) (hL : L.take n = l.map fun b=>(true,b))
  (hd : dataL rest = true) (hv : scalB v = true) (base : Nat) : CAct P base fid (.own .boxM k 0 n c :: rest) ⟨v,[(k,.row .boxM L)],[],[]⟩:=by
 refine ⟨fun m hrd w g vs hm hr=>?_⟩
 have hk : m k = some (.row .boxM L):=hrd (k,.row .boxM L) (by simp)
 have hal : g.al k:=(hm.al k).2 (by simp [hk])
 let g0 : G:={ ro:=fun b=>(g.ro b ∨ g.fr b) ∨ (0 < g.sz k ∧ b = g.be k),no:=fun b=>g.no b ∨ (∃ j,g.al j ∧ j ≠ k ∧ 0 < g.sz j ∧ g.be j = b) ∨ ∃ n,g.jd b n,al:=fun _=>False,be:=id,sz:=id,fr:=fun _=>False,jd:=fun _ _=>False,fn:=fun _=>False }
 have hm0 : MSim w g0 0 (mget []):=⟨fun k=>by simp [g0,mget],fun k hk=>hk.elim,fun k hk=>hk.elim,fun k j hk=>hk.elim,fun k b hb=>by simp [mget] at hb,fun b hb=>by
  rcases hb with (hb|hb)|⟨hz,rfl⟩
  ·exact hm.rolt b hb
  ·exact hm.fj.lt (.inl hb)
  ·exact hm.lt_heap hal hz,fun b hb=>by
  rcases hb with hb|⟨j,hj,hjk,hz,rfl⟩|hb
  ·refine ⟨(hm.nof b hb).1,fun hr=>?_,fun k hk=>hk.elim⟩
   rcases hr with (hr|hr)|⟨hz,rfl⟩
   ·exact (hm.nof b hb).2.1 hr
   ·exact (hm.fj.nro b (.inl hr)).2 hb
   ·exact (hm.nof _ hb).2.2 k hal hz rfl
  ·refine ⟨hm.lt_heap hj hz,fun hr=>?_,fun k hk=>hk.elim⟩
   rcases hr with (hr|hr)|⟨hz2,e⟩
   ·exact hm.nro j hj hz hr
   ·exact hm.fj.nal _ (.inl hr) j hj hz rfl
   ·exact hjk (hm.inj j k hj hal hz hz2 e)
  ·refine ⟨hm.fj.lt (.inr hb),fun hr=>?_,fun k hk=>hk.elim⟩
   rcases hr with (hr|hr)|⟨hz,e⟩
   ·exact (hm.fj.nro b (.inr hb)).1 hr
   ·obtain ⟨n,hb⟩:=hb
    exact hm.fj.jf b n hb hr
   ·exact hm.fj.nal b (.inr hb) k hal hz e.symm,FJ.none (fun _ h=>h) (fun _ _ h=>h)⟩
 have hr0 : RepL w g0 0 (.vec .box l :: rest) vs:=by
  refine ⟨by have:=hr.1;simpa using this,fun i a x ha hx=>?_⟩
  cases i with
  | zero =>
   simp at ha;subst ha
   have h1:=(hr.2 0 (.own .boxM k 0 n c) x rfl hx).toVec hm hk (by omega)
   rw [List.drop_zero,hL] at h1
   exact h1.mix.un (g:=g.freeze k) (g':=g0) (fun b hb=>by
    rcases hb with (hb|hb)|hb
    ·exact .inl (.inl hb)
    ·exact .inr hb
    ·exact .inl (.inr hb)) rfl
  | succ i =>
   have ha2 : rest[i]? = some a:=by simpa using ha
   exact (hr.2 (i + 1) a x (by simpa using ha2) hx).pureF (pureL_get (dataL_pure hd).1 ha2) ⟨fun _ h=>.inl (.inl h),fun _ _=>rfl⟩ (.inl (nofL_get (dataL_pure hd).2 ha2))
 refine (h w g0 vs hm0 hr0).mono fun e w' ⟨x,g',e1,e2,e3,e4,e5⟩=>?_
 let g2 : G:={ ro:=fun b=>g'.ro b ∧ ¬ g.fr b ∧ ¬ (0 < g.sz k ∧ b = g.be k),no:=g.no,al:=g.al,be:=g.be,sz:=g.sz,fr:=g.fr,jd:=g.jd,fn:=g.fn }
 have hbe : ∀ j,g.al j → 0 < g.sz j → w'.heap[g.be j]? = w.heap[g.be j]?:=fun j hj hz=>by
  by_cases hjk : j = k
  ·subst hjk;exact e4.same _ (.inr ⟨hz,rfl⟩)
  ·exact e4.others _ (.inr (.inl ⟨j,hj,hjk,hz,rfl⟩))
 have hold : ∀ b,(g.fr b ∨ ∃ n,g.jd b n) → w'.heap[b]? = w.heap[b]?:=fun b hb=>by
  rcases hb with hb|hb
  ·exact e4.same b (.inl (.inr hb))
  ·exact e4.others b (.inr (.inr hb))
 have hkeep : Keeps w w' g g2:=⟨fun b hb=>⟨e5.ro b (.inl (.inl hb)),fun hf=>(hm.fj.nro b (.inl hf)).1 hb,fun he=>hm.nro k hal he.1 (he.2 ▸ hb)⟩,fun b hb=>e4.same b (.inl (.inl hb)),fun b hb=>⟨hb,hold b (.inl hb)⟩,fun b n hb=>hb,fun _ _=>Iff.rfl⟩
 refine ⟨x,g2,e1,e2.scal hv,?_,⟨e4.os,e4.tape,e4.output,e4.size,fun b hb=>e4.same b (.inl (.inl hb)),fun b hb=>e4.others b (.inl hb)⟩,⟨hkeep.ro,fun _ h=>h,fun _ _ ha=>⟨ha,rfl,rfl⟩⟩,fun fr xs hfr=>?_⟩
 ·refine ⟨hm.al,hm.lt,fun j hj hz hro=>?_,hm.inj,fun j b hb=>?_,fun b hb=>e3.rolt b hb.1,fun b hb=>?_,hm.fj.step hold (fun b hb=>⟨fun hro=>?_,(hm.fj.nro b hb).2⟩) hm.fj.nal⟩
  ·by_cases hjk : j = k
   ·subst hjk;exact hro.2.2 ⟨hz,rfl⟩
   ·exact (e3.nof _ (e5.no _ (.inr (.inl ⟨j,hj,hjk,hz,rfl⟩)))).2.1 hro.1
  ·have hj:=(hm.al j).2 (by simp only [Act1.me,fgtsM,putsM] at hb;simp [hb])
   exact (hm.blk j b hb).mono' hkeep (Nat.le_refl _) (hbe j hj) fun _ _ _ ha=>⟨ha,rfl,rfl⟩
  ·have hn:=e3.nof b (e5.no b (.inl hb))
   exact ⟨hn.1,fun h=>hn.2.1 h.1,(hm.nof b hb).2.2⟩
  ·rcases hb with hb|hb
   ·exact hro.2.1 hb
   ·exact (e3.nof b (e5.no b (.inr (.inr hb)))).2.1 hro.1
 ·exact hfr.mono hkeep (Nat.le_refl _) fun _ _ ha=>⟨ha,rfl,rfl⟩
mutual
def lndV : AV → Mem → (AV → List (Nat × Blk) → Prop) → Prop
 | .own t k off n _,m,K=>memK m k fun b=>match b with
  | .row t' l=>match tyB t' t with
   | true=>asK t' t l fun l=>off + n ≤ l.length ∧ K (unT t ((l.drop off).take n)) [(k,.row t l)]
   | false=>False
  | _=>False
 | .agg cs,m,K=>lndL cs m fun cs rd=>K (.agg cs) rd
 | .tup cs,m,K=>lndL cs m fun cs rd=>K (.tup cs) rd
 | .fec j t l,_,K=>match j with|true=>K .sl []|false=>K (unT t l) []
 | .vec t l,_,K=>K (unT t l) []
 | .ptr _ _,_,_=>False
 | .rptr _ _ _ _,_,_=>False
 | .vptr _ _ _ _,_,_=>False
 | .fptr _ _ _ _,_,_=>False
 | .mp _,_,_=>False
 | .clo _ _ _,_,_=>False
 | v,_,K=>K v []
def lndL : List AV → Mem → (List AV → List (Nat × Blk) → Prop) → Prop
 | [],_,K=>K [] []
 | c :: r,m,K=>lndV c m fun c rd=>lndL r m fun r rd2=>K (c :: r) (rd ++ rd2)
end
def G.lnu (g : G) : G:={ ro:=fun b=>(g.ro b ∨ g.fr b) ∨ ∃ k,g.al k ∧ 0 < g.sz k ∧ g.be k = b,no:=fun b=>g.no b ∨ ∃ n,g.jd b n,al:=fun _=>False,be:=g.be,sz:=g.sz,fr:=fun _=>False,jd:=fun _ _=>False,fn:=fun _=>False }
theorem MSim.lnu {w : World} {g : G} {lim : Nat} {m : Nat → Option Blk} (h : MSim w g lim m) : MSim w g.lnu 0 (mget []):=
 ⟨fun k=>by simp [G.lnu,mget],fun k hk=>hk.elim,fun k hk=>hk.elim,fun k j hk=>hk.elim,fun k b hb=>by simp [mget] at hb,fun b hb=>by
  rcases hb with (hb|hb)|⟨k,hk,hz,rfl⟩
  ·exact h.rolt b hb
  ·exact h.fj.lt (.inl hb)
  ·exact h.lt_heap hk hz,fun b hb=>by
  rcases hb with hb|hb
  ·refine ⟨(h.nof b hb).1,fun hr=>?_,fun k hk=>hk.elim⟩
   rcases hr with (hr|hr)|⟨k,hk,hz,e⟩
   ·exact (h.nof b hb).2.1 hr
   ·exact (h.fj.nro b (.inl hr)).2 hb
   ·exact (h.nof b hb).2.2 k hk hz e
  ·refine ⟨h.fj.lt (.inr hb),fun hr=>?_,fun k hk=>hk.elim⟩
   rcases hr with (hr|hr)|⟨k,hk,hz,e⟩
   ·exact (h.fj.nro b (.inr hb)).1 hr
   ·obtain ⟨n,hb⟩:=hb
    exact h.fj.jf b n hb hr
   ·exact h.fj.nal b (.inr hb) k hk hz e,FJ.none (fun _ h=>h) (fun _ _ h=>h)⟩
def LndOk (rd : List (Nat × Blk)) (V : World → G → Nat → Prop) (V' : World → G → Prop) : Prop:=
 ∀ (m' : Nat → Option Blk) (w : World) (g : G) (lim : Nat),MSim w g lim m' → (∀ p ∈ rd,m' p.1 = some p.2) → V w g lim → V' w g.lnu
theorem LndOk.un {v : AV} (hn : newV v = true) (x : Value) : LndOk [] (fun w g lim=>Rep w g lim v x) (fun w g=>Rep w g 0 (unV v) x):=fun _ w g lim _ _ h =>
 h.un (g':=g.lnu) (fun _ hb=>.inl hb) hn
mutual
theorem lndV_ok : ∀ (v : AV) {m : Mem} {K : AV → List (Nat × Blk) → Prop},lndV v m K → ∃ v' rd,K v' rd ∧ (∀ p ∈ rd,mget m p.1 = some p.2) ∧ ∀ x,LndOk rd (fun w g lim=>Rep w g lim v x) (fun w g=>Rep w g 0 v' x)
 | .own t k off n c,m,K,h=>by
  simp only [lndV] at h
  obtain ⟨b,hb,h⟩:=memK_ok h
  cases b with
  | box _=>exact h.elim
  | mp _ _=>exact h.elim
  | pm _ _ _=>exact h.elim
  | row t' l =>
   simp only at h
   cases ht : tyB t' t with
   | false=>rw [ht] at h;exact h.elim
   | true =>
    rw [ht] at h
    have e1:=tyB_ok ht
    subst e1
    obtain ⟨e2,h2⟩:=asK_ok h
    obtain ⟨hlen,hK⟩:=h2
    have hcast : (e2 ▸ l) = l:=rfl
    rw [hcast] at hK hlen
    refine ⟨_,_,hK,fun p hp=>by simp only [List.mem_singleton] at hp;subst hp;exact hb,fun x m' w g lim hm hr hx=>?_⟩
    have hk : m' k = some (.row t' l):=hr (k,.row t' l) (by simp)
    have h3:=hx.toVecA hm hk hlen
    exact h3.un (g':=g.lnu) (fun b hb=>by
     rcases hb with (hb|hb)|hb
     ·exact .inl (.inl hb)
     ·exact .inr hb
     ·exact .inl (.inr hb)) rfl
 | .agg cs,m,K,h=>by
  simp only [lndV] at h
  obtain ⟨cs',rd,hK,hrd,hh⟩:=lndL_ok cs h
  refine ⟨_,_,hK,hrd,fun x m' w g lim hm hr hx=>?_⟩
  cases hx with
  | agg _ xs hl hx=>have:=hh xs m' w g lim hm hr ⟨hl,hx⟩;exact .agg _ xs this.1 this.2
 | .tup cs,m,K,h=>by
  simp only [lndV] at h
  obtain ⟨cs',rd,hK,hrd,hh⟩:=lndL_ok cs h
  refine ⟨_,_,hK,hrd,fun x m' w g lim hm hr hx=>?_⟩
  cases hx with
  | tup _ xs hl hx=>have:=hh xs m' w g lim hm hr ⟨hl,hx⟩;exact .tup _ xs this.1 this.2
 | .fec j t l,m,K,h=>by
  cases j with
  | true=>exact ⟨_,_,h,by simp,fun x=>LndOk.un (v:=.fec true t l) rfl x⟩
  | false=>exact ⟨_,_,h,by simp,fun x=>LndOk.un (v:=.fec false t l) rfl x⟩
 | .vec t l,m,K,h=>⟨_,_,h,by simp,fun x=>LndOk.un (v:=.vec t l) rfl x⟩
 | .ptr _ _,m,K,h=>by simp only [lndV] at h
 | .rptr _ _ _ _,m,K,h=>by simp only [lndV] at h
 | .vptr _ _ _ _,m,K,h=>by simp only [lndV] at h
 | .fptr _ _ _ _,m,K,h=>by simp only [lndV] at h
 | .mp _,m,K,h=>by simp only [lndV] at h
 | .clo _ _ _,m,K,h=>by simp only [lndV] at h
 | .top,m,K,h=>⟨_,_,h,by simp,fun x=>LndOk.un (v:=.top) rfl x⟩
 | .tt,m,K,h=>⟨_,_,h,by simp,fun x=>LndOk.un (v:=.tt) rfl x⟩
 | .ff,m,K,h=>⟨_,_,h,by simp,fun x=>LndOk.un (v:=.ff) rfl x⟩
 | .bl p q,m,K,h=>⟨_,_,h,by simp,fun x=>LndOk.un (v:=.bl p q) rfl x⟩
 | .emp t,m,K,h=>⟨_,_,h,by simp,fun x=>LndOk.un (v:=.emp t) rfl x⟩
 | .lit y,m,K,h=>⟨_,_,h,by simp,fun x=>LndOk.un (v:=.lit y) rfl x⟩
 | .sl,m,K,h=>⟨_,_,h,by simp,fun x=>LndOk.un (v:=.sl) rfl x⟩
theorem lndL_ok : ∀ (cs : List AV) {m : Mem} {K : List AV → List (Nat × Blk) → Prop},lndL cs m K → ∃ cs' rd,K cs' rd ∧ (∀ p ∈ rd,mget m p.1 = some p.2) ∧ ∀ xs,LndOk rd (fun w g lim=>RepL w g lim cs xs) (fun w g=>RepL w g 0 cs' xs)
 | [],m,K,h=>⟨[],[],h,by simp,fun xs m' w g lim hm hr hx=>⟨hx.1,fun i c x hc=>by simp at hc⟩⟩
 | c :: r,m,K,h=>by
  simp only [lndL] at h
  obtain ⟨c',rd,h,hrd,hh⟩:=lndV_ok c h
  obtain ⟨r',rd2,hK,hrd2,hh2⟩:=lndL_ok r h
  refine ⟨_,_,hK,fun p hp=>?_,fun xs m' w g lim hm hr hx=>?_⟩
  ·rcases List.mem_append.1 hp with hp|hp
   ·exact hrd p hp
   ·exact hrd2 p hp
  ·obtain ⟨x,ys,hxs⟩ : ∃ x ys,xs.toList = x :: ys:=by
    cases hx2 : xs.toList with
    | nil=>have:=hx.1;rw [← Array.length_toList,hx2] at this;simp at this
    | cons x ys=>exact ⟨x,ys,rfl⟩
   have hx2 : xs = (x :: ys).toArray:=by rw [← hxs]
   subst hx2
   have h1:=hh x m' w g lim hm (fun p hp=>hr p (List.mem_append_left _ hp)) (hx.2 0 c x (by simp) (by simp))
   have h2:=hh2 ys.toArray m' w g lim hm (fun p hp=>hr p (List.mem_append_right _ hp)) ⟨by have:=hx.1;simpa using this,fun i c2 x2 hc2 hx2=>hx.2 (i + 1) c2 x2 (by simpa using hc2) (by simpa using hx2)⟩
   exact RepL.cons0 h1 h2
end
theorem Api.lendU {P : Program} {fid : FuncId} {args argsV : List AV} {v : AV} {rd : List (Nat × Blk)} (h : Api P fid argsV v) (hl : ∀ xs,LndOk rd (fun w g lim=>RepL w g lim args xs) (fun w g=>RepL w g 0 argsV xs)) (hv : resB v = true) (base : Nat) : CAct P base fid args ⟨v,rd,[],[]⟩:=by
 refine ⟨fun m hrd w g vs hm hr=>?_⟩
 have hr0:=hl vs m w g (base + L) hm hrd hr
 refine (h w g.lnu vs hm.lnu hr0).mono fun e w' ⟨x,g',e1,e2,e3,e4,e5⟩=>?_
 let g2 : G:={ ro:=fun b=>g'.ro b ∧ ¬ g.fr b ∧ ∀ k,g.al k → 0 < g.sz k → g.be k ≠ b,no:=g.no,al:=g.al,be:=g.be,sz:=g.sz,fr:=fun b=>g.fr b ∨ g'.fr b,jd:=fun b n=>g.jd b n ∨ g'.jd b n,fn:=fun b=>(g.fr b ∧ g.fn b) ∨ (¬ g.fr b ∧ g'.fn b) }
 have hbe : ∀ k,g.al k → 0 < g.sz k → w'.heap[g.be k]? = w.heap[g.be k]?:=fun k hk hz=>e4.same _ (.inr ⟨k,hk,hz,rfl⟩)
 have hold : ∀ b,(g.fr b ∨ ∃ n,g.jd b n) → w'.heap[b]? = w.heap[b]?:=fun b hb=>by
  rcases hb with hb|hb
  ·exact e4.same b (.inl (.inr hb))
  ·exact e4.others b (.inr hb)
 have hkeep : Keeps w w' g g2:=⟨fun b hb=>⟨e5.ro b (.inl (.inl hb)),fun hf=>(hm.fj.nro b (.inl hf)).1 hb,fun k hk hz e=>hm.nro k hk hz (e ▸ hb)⟩,fun b hb=>e4.same b (.inl (.inl hb)),fun b hb=>⟨.inl hb,hold b (.inl hb)⟩,fun b n hb=>.inl hb,fun b hb=>⟨fun h=>h.elim (fun h=>h.2) (fun h=>absurd hb h.1),fun h=>.inl ⟨hb,h⟩⟩⟩
 refine ⟨x,g2,e1,e2.res ⟨fun _ h=>⟨.inr h,rfl⟩,fun _ _ h=>.inr h,fun b hb=>⟨fun h=>h.elim (fun h=>absurd (e5.ro b (.inl (.inr h.1))) (e3.fj.nro b (.inl hb)).1) (fun h=>h.2),fun h=>.inr ⟨fun hf=>(e3.fj.nro b (.inl hb)).1 (e5.ro b (.inl (.inr hf))),h⟩⟩⟩ hv,?_,⟨e4.os,e4.tape,e4.output,e4.size,fun b hb=>e4.same b (.inl (.inl hb)),fun b hb=>e4.others b (.inl hb)⟩,⟨hkeep.ro,fun _ h=>h,fun _ _ ha=>⟨ha,rfl,rfl⟩⟩,fun fr xs hfr=>?_⟩
 ·refine ⟨hm.al,hm.lt,fun k hk hz hro=>hro.2.2 k hk hz rfl,hm.inj,fun k b hb=>?_,fun b hb=>e3.rolt b hb.1,fun b hb=>?_,hm.fj.join2 e3.fj hold (fun b hb=>?_) (fun b hb=>?_) fun b hb k hk hz=>?_⟩
  ·have hal:=(hm.al k).2 (by simp only [Act1.me,fgtsM,putsM] at hb;simp [hb])
   exact (hm.blk k b hb).mono' hkeep (Nat.le_refl _) (hbe k hal) fun _ _ _ ha=>⟨ha,rfl,rfl⟩
  ·have hn:=e3.nof b (e5.no b (.inl hb))
   exact ⟨hn.1,fun h=>hn.2.1 h.1,(hm.nof b hb).2.2⟩
  ·rcases hb with hb|hb
   ·exact .inr (e5.ro b (.inl (.inr hb)))
   ·exact .inl (e5.no b (.inr hb))
  ·rcases hb with (hb|hb)|hb
   ·exact ⟨fun h=>h.2.1 hb,(hm.fj.nro b (.inl hb)).2⟩
   ·exact ⟨fun h=>(e3.nof b (e5.no b (.inr hb))).2.1 h.1,(hm.fj.nro b (.inr hb)).2⟩
   ·exact ⟨fun h=>(e3.fj.nro b hb).1 h.1,fun hn=>(e3.fj.nro b hb).2 (e5.no b (.inl hn))⟩
  ·rcases hb with hb|hb
   ·exact hm.fj.nal b hb k hk hz
   ·exact fun e=>(e3.fj.nro b hb).1 (e ▸ e5.ro _ (.inr ⟨k,hk,hz,rfl⟩))
 ·exact hfr.mono hkeep (Nat.le_refl _) fun _ _ ha=>⟨ha,rfl,rfl⟩
theorem kN {P : Program} {base : Nat} {fid : FuncId} {args argsV : List AV} {v : AV} (h : Api P fid argsV v) {f : List AV} {m : Mem} {d : Option Nat} {K : List AV → Mem → Prop} {J : Prop}
  (hf : lndL args m fun a rd=>a = argsV ∧ applyK ⟨v,rd,[],[]⟩ f m d K) (hv : resB v = true:=by exact rfl) : (∃ c : Act1,(∀ p ∈ c.rd,mget m p.1 = some p.2) ∧ CAct P base fid args c ∧ applyK c f m d K) ∨ J:=by
 obtain ⟨a',rd,⟨rfl,hK⟩,hrd,hh⟩:=lndL_ok args hf
 exact .inl ⟨_,hrd,h.lendU hh hv base,hK⟩
open Go Go.RowKit
theorem Api.give {P : Program} {fid : FuncId} {args argsV : List AV} {v : AV} (h : Api P fid argsV v) (ha : dataL argsV = true) (hv : pureV v = true) (base : Nat) {rd : List (Nat × Blk)}
  (hfr : ∀ (m' : Nat → Option Blk) (w : World) (g : G) (lim : Nat),MSim w g lim m' → (∀ p ∈ rd,m' p.1 = some p.2) → ∃ g1,MSim w g1 lim (putsM (nones rd) m') ∧ (∀ base,LeG base g g1) ∧
   (∀ v x,Rep w g lim v x → Rep w g1 lim v x) ∧ ∀ xs : List Value,RepL w g lim args xs.toArray → RepL w g1 lim argsV xs.toArray) : CAct P base fid args ⟨v,rd,nones rd,[]⟩:=by
 refine ⟨fun m hrd w g vs hm hr=>?_⟩
 obtain ⟨g1,hm1,hl1,hr1,hr2⟩:=hfr m w g (base + L) hm hrd
 refine ((h.cact ha hv base).go (putsM (nones rd) m) (by simp [vA]) w g1 vs hm1 (by have:=hr2 vs.toList (by simpa using hr);simpa using this)).mono fun e w' ⟨x,g',e1,e2,e3,e4,e5,e6⟩=>?_
 refine ⟨x,g',e1,e2,?_,⟨e4.os,e4.tape,e4.output,e4.size,fun b hb=>e4.same b ((hl1 base).ro b hb),fun b hb=>e4.others b ((hl1 base).no b hb)⟩,(hl1 base).trans e5,fun fr xs hfr=>?_⟩
 ·simp only [Act1.me,vA,fgtsM,putsM] at e3 ⊢
  exact e3
 ·exact e6 fr xs ⟨hfr.1,fun i c x hc hx=>hr1 _ _ (hfr.2 i c x hc hx)⟩
open Go Go.RowKit
def FrzOk (rd : List (Nat × Blk)) (R : World → G → G → Nat → Prop) : Prop:=
 ∀ (m' : Nat → Option Blk) (w : World) (g : G) (lim : Nat),MSim w g lim m' → (∀ p ∈ rd,m' p.1 = some p.2) → ∃ g1,MSim w g1 lim (putsM (nones rd) m') ∧ (∀ base,LeG base g g1) ∧
  (∀ v x,Rep w g lim v x → Rep w g1 lim v x) ∧ R w g g1 lim
theorem FrzOk.nil {R : World → G → G → Nat → Prop} (h : ∀ w g lim,R w g g lim) : FrzOk [] R:=
 fun m' w g lim hm _=>⟨g,hm,fun base=>LeG.refl base g,fun v x h=>h,h w g lim⟩
open Go Go.RowKit Go.ChangeShapes Go.WideShapes
def g0 (W : World) : G:={ ro:=fun b=>b < W.heap.size,no:=fun _=>False,al:=fun _=>False,be:=id,sz:=id,fr:=fun _=>False,jd:=fun _ _=>False,fn:=fun _=>False }
theorem msim0 (W : World) : MSim W (g0 W) 0 (mget []):=
 ⟨fun k=>by simp [g0,mget],fun k hk=>hk.elim,fun k hk=>hk.elim,fun k j hk=>hk.elim,fun k b hb=>by simp [mget] at hb,fun b hb=>hb,fun b hb=>hb.elim,FJ.none (fun _ h=>h) (fun _ _ h=>h)⟩
def Reads (P : Program) (t : TypeId) (n : Nat) {α : Type} (cs : α → List AV) (ok : α → Prop) : Prop:=
 P.cellsOf t = n ∧ (∀ a,(cs a).length = n) ∧ ∀ (W : World) (H : Type) (enc : TypeId × Value → H) (fuel : Nat) (xs : List Value) (x : DataW H × List MemPlace),
  DataW.trod enc P W 0 (fun _=>true) true fuel t xs = some x → (∀ k ∈ x.1.weights P t,k ≤ reachBytes) →
  xs.length = n ∧ ∃ a,ok a ∧ ∀ (i : Nat) c y,(cs a)[i]? = some c → xs[i]? = some y → Rep W (g0 W) 0 c y
theorem get_one {β : Type} {a c : β} {i : Nat} (h : [a][i]? = some c) : c = a:=by
 cases i with
 | zero=>simpa using h.symm
 | succ i=>simp at h
theorem reads_int {P : Program} {t : TypeId} {k : IntKind} (ht : P.underlying t = some (.int k)) (hc : P.cellsOf t = 1) : Reads P t 1 (fun n : Int=>[.lit (.int k n)]) (fun n=>k.min ≤ n ∧ n ≤ k.max):=by
 refine ⟨hc,fun _=>rfl,fun W H enc fuel xs x h _=>?_⟩
 obtain ⟨n,rfl,_,hw⟩:=DataW.trod_int ht h
 refine ⟨rfl,n,by simpa [Lit.wf] using hw,fun i c y h1 h2=>?_⟩
 rw [get_one h1,get_one h2];exact .lit _
theorem reads_bool {P : Program} {t : TypeId} (ht : P.underlying t = some .bool) (hc : P.cellsOf t = 1) : Reads P t 1 (fun b : Bool=>[.lit (.bool b)]) (fun _=>True):=by
 refine ⟨hc,fun _=>rfl,fun W H enc fuel xs x h _=>?_⟩
 obtain ⟨b,rfl,_⟩:=DataW.trod_bool ht h
 refine ⟨rfl,b,trivial,fun i c y h1 h2=>?_⟩
 rw [get_one h1,get_one h2];exact .lit _
theorem reads_map {P : Program} {t : TypeId} {n : Nat} {α β : Type} {cs : α → List AV} {ok : α → Prop} (h : Reads P t n cs ok) {cs' : β → List AV} {ok' : β → Prop} (f : α → β) (hl : ∀ b,(cs' b).length = n)
  (hf : ∀ a,cs' (f a) = cs a) (ho : ∀ a,ok a → ok' (f a)) : Reads P t n cs' ok':=by
 refine ⟨h.1,hl,fun W H enc fuel xs x hx hw=>?_⟩
 obtain ⟨h1,a,h2,h3⟩:=h.2.2 W H enc fuel xs x hx hw
 exact ⟨h1,f a,ho a h2,by rw [hf];exact h3⟩
def ReadsFs (P : Program) (fs : List Field) (off : Nat) (n : Nat) {α : Type} (cs : α → List AV) (ok : α → Prop) : Prop:=
 (∀ a,(cs a).length = n) ∧ ∀ (W : World) (H : Type) (enc : TypeId × Value → H) (fuel : Nat) (xs : List Value) (ys : List (DataW H × List MemPlace)),ys.length = fs.length →
  (∀ (i : Nat) (f : Field),fs[i]? = some f → DataW.trod enc P W 0 (fun _=>true) true fuel f.type ((xs.drop f.offset).take (P.cellsOf f.type)) = ys[i]?) →
  (∀ k ∈ DataW.weightsEach P (fs.map (·.type)) (ys.map (·.1)),k ≤ reachBytes) →
  ∃ a,ok a ∧ ∀ (i : Nat) c y,(cs a)[i]? = some c → xs[off + i]? = some y → Rep W (g0 W) 0 c y
theorem readsFs_nil (P : Program) (off : Nat) : ReadsFs P [] off 0 (fun _ : Unit=>[]) (fun _=>True):=
 ⟨fun _=>rfl,fun _ _ _ _ _ _ _ _ _=>⟨(),trivial,fun i c y h=>by simp at h⟩⟩
theorem readsFs_cons {P : Program} {f : Field} {fs : List Field} {off n1 n2 : Nat} {α β : Type} {cs1 : α → List AV} {ok1 : α → Prop} {cs2 : β → List AV} {ok2 : β → Prop}
  (h1 : Reads P f.type n1 cs1 ok1) (ho : f.offset = off) (h2 : ReadsFs P fs (off + n1) n2 cs2 ok2) : ReadsFs P (f :: fs) off (n1 + n2) (fun p : α × β=>cs1 p.1 ++ cs2 p.2) (fun p=>ok1 p.1 ∧ ok2 p.2):=by
 refine ⟨fun p=>by rw [List.length_append,h1.2.1,h2.1],fun W H enc fuel xs ys hl hall hw=>?_⟩
 obtain ⟨y,ys,rfl⟩ : ∃ y r,ys = y :: r:=by
  cases ys with
  | nil=>simp at hl
  | cons y r=>exact ⟨y,r,rfl⟩
 have h0:=hall 0 f rfl
 simp only [List.getElem?_cons_zero] at h0
 simp only [List.map_cons,DataW.weightsEach,List.mem_append] at hw
 obtain ⟨k1,a,k2,k3⟩:=h1.2.2 W H enc fuel _ y h0 fun k hk=>hw k (.inl hk)
 obtain ⟨b,k4,k5⟩:=h2.2 W H enc fuel xs ys (by simpa using hl) (fun i g hg=>by simpa using hall (i + 1) g (by simpa using hg)) fun k hk=>hw k (.inr hk)
 refine ⟨(a,b),⟨k2,k4⟩,fun i c y hc hy=>?_⟩
 simp only at hc
 by_cases hi : i < n1
 ·rw [List.getElem?_append_left (by rw [h1.2.1];exact hi)] at hc
  refine k3 i c y hc ?_
  rw [List.getElem?_take_of_lt (by rw [h1.1];exact hi),List.getElem?_drop,ho];exact hy
 ·rw [List.getElem?_append_right (by rw [h1.2.1];omega),h1.2.1] at hc
  refine k5 (i - n1) c y hc ?_
  rw [show off + n1 + (i - n1) = off + i by omega];exact hy
theorem reads_struct {P : Program} {t : TypeId} {fs : Array Field} {n : Nat} {α : Type} {cs : α → List AV} {ok : α → Prop} (ht : P.underlying t = some (.struct fs)) (hc : P.cellsOf t = n) (h : ReadsFs P fs.toList 0 n cs ok) : Reads P t n cs ok:=by
 refine ⟨hc,h.1,fun W H enc fuel xs x hx hw=>?_⟩
 obtain ⟨ys,m,rfl,rfl,hl,hn,hall⟩:=DataW.trod_struct ht hx
 simp only [DataW.weights,ht] at hw
 obtain ⟨a,h1,h2⟩:=h.2 W H enc m xs ys (by simpa using hn) (fun i f hf=>hall i f (by simpa using hf)) hw
 exact ⟨by rw [hl,hc],a,h1,fun i c y h3 h4=>h2 i c y h3 (by rw [Nat.zero_add];exact h4)⟩
def ReadsL (P : Program) (L : List (TypeId × Nat)) (off : Nat) (n : Nat) {α : Type} (cs : α → List AV) (ok : α → Prop) : Prop:=
 ∀ fs : List Field,fs.map (fun f=>(f.type,f.offset)) = L → ReadsFs P fs off n cs ok
theorem readsL_nil (P : Program) (off : Nat) : ReadsL P [] off 0 (fun _ : Unit=>[]) (fun _=>True):=by
 intro fs h
 cases fs with
 | nil=>exact readsFs_nil P off
 | cons f fs=>simp at h
theorem readsL_cons {P : Program} {t : TypeId} {L : List (TypeId × Nat)} {off n1 n2 : Nat} {α β : Type} {cs1 : α → List AV} {ok1 : α → Prop} {cs2 : β → List AV} {ok2 : β → Prop}
  (h1 : Reads P t n1 cs1 ok1) (h2 : ReadsL P L (off + n1) n2 cs2 ok2) : ReadsL P ((t,off) :: L) off (n1 + n2) (fun p : α × β=>cs1 p.1 ++ cs2 p.2) (fun p=>ok1 p.1 ∧ ok2 p.2):=by
 intro fs h
 cases fs with
 | nil=>simp at h
 | cons f fs =>
  simp only [List.map_cons,List.cons.injEq,Prod.mk.injEq] at h
  obtain ⟨⟨rfl,ho⟩,h⟩:=h
  exact readsFs_cons h1 ho (h2 fs h)
theorem reads_structL {P : Program} {t : TypeId} {fs : Array Field} {L : List (TypeId × Nat)} {n : Nat} {α : Type} {cs : α → List AV} {ok : α → Prop} (ht : P.underlying t = some (.struct fs)) (hL : fs.toList.map (fun f=>(f.type,f.offset)) = L) (hc : P.cellsOf t = n) (h : ReadsL P L 0 n cs ok) : Reads P t n cs ok:=
 reads_struct ht hc (h _ hL)
theorem mem_weightsAll {H : Type} {P : Program} {e : TypeId} {l : List (DataW H)} {d : DataW H} (hd : d ∈ l) {k : Nat} (hk : k ∈ d.weights P e) : k ∈ DataW.weightsAll P e l:=by
 induction l with
 | nil=>simp at hd
 | cons a r ih =>
  simp only [DataW.weightsAll,List.mem_append]
  rcases List.mem_cons.1 hd with rfl|hd
  ·exact .inl hk
  ·exact .inr (ih hd)
theorem pickAll {β γ : Type} (f : Nat → Option β) (R : β → γ → Prop) (p : γ → Prop) : ∀ n : Nat,(∀ i,i < n → ∃ b c,f i = some b ∧ R b c ∧ p c) → ∃ l : List γ,l.length = n ∧ (∀ c ∈ l,p c) ∧ ∀ (i : Nat) c,l[i]? = some c → ∃ b,f i = some b ∧ R b c
 | 0,_=>⟨[],rfl,by simp,by simp⟩
 | n + 1,h=>by
  obtain ⟨l,h1,h2,h3⟩:=pickAll f R p n fun i hi=>h i (by omega)
  obtain ⟨b,c,h4,h5,h6⟩:=h n (by omega)
  refine ⟨l ++ [c],by simp [h1],fun d hd=>?_,fun i d hd=>?_⟩
  ·rcases List.mem_append.1 hd with hd|hd
   ·exact h2 d hd
   ·simp at hd;subst hd;exact h6
  ·by_cases hi : i < n
   ·rw [List.getElem?_append_left (by omega)] at hd
    exact h3 i d hd
   ·rw [List.getElem?_append_right (by omega)] at hd
    have:=get_one hd
    subst this
    have : i = n:=by
     have:=(List.getElem?_eq_some_iff.1 hd).1
     simp at this;omega
    subst this
    exact ⟨b,h4,h5⟩
theorem reads_slice {P : Program} {t e : TypeId} (ty : Ty) {ok : El ty → Prop} (ht : P.underlying t = some (.slice e)) (hc : P.cellsOf t = 1) (hz : P.bytesOf e = bsz ty) (h : Reads P e (csz ty) (cells ty) ok) :
  Reads P t 1 (fun l : List (El ty)=>[.vec ty l]) (fun l=>(∀ a ∈ l,ok a) ∧ l.length * bsz ty ≤ 140737488351232):=by
 refine ⟨hc,fun _=>rfl,fun W H enc fuel xs x hx hw=>?_⟩
 rcases DataW.trod_slice ht hx with ⟨rfl,rfl⟩|⟨a,len,cap,elems,rest,n,rfl,rfl,rfl,_,hlc,_,hel,hall,_,_⟩
 ·refine ⟨rfl,[],⟨by simp,by simp⟩,fun i c y h1 h2=>?_⟩
  rw [get_one h1,get_one h2];exact .vecE _ _ _
 ·simp only [DataW.weights,ht,List.mem_cons,List.mem_append] at hw
  rcases Nat.eq_zero_or_pos len with h0|h0
  ·subst h0
   refine ⟨rfl,[],⟨by simp,by simp⟩,fun i c y h1 h2=>?_⟩
   rw [get_one h1,get_one h2];exact .vecE _ _ _
  ·have hcs:=csz_pos ty
   have key : ∀ i,i < len → ∃ (b : List Value) (c : El ty),W.cells? 0 (a.add (i * P.cellsOf e)) (P.cellsOf e) = some b ∧
     (b.length = csz ty ∧ ∀ (j : Nat) cc y,(cells ty c)[j]? = some cc → b[j]? = some y → Rep W (g0 W) 0 cc y) ∧ ok c:=by
    intro i hi
    have hb:=hall i hi
    have hel' : elems[i]? = some elems[i]:=List.getElem?_eq_getElem (by omega)
    rw [hel'] at hb
    cases hcell : W.cells? 0 (a.add (i * P.cellsOf e)) (P.cellsOf e) with
    | none=>rw [hcell] at hb;cases hb
    | some b =>
     rw [hcell] at hb
     obtain ⟨k1,c,k2,k3⟩:=h.2.2 W H enc n b _ hb fun k hk=>hw k (.inr (.inl (mem_weightsAll (List.mem_map.2 ⟨elems[i],List.getElem_mem _,rfl⟩) hk)))
     exact ⟨b,c,rfl,⟨k1,k3⟩,k2⟩
   obtain ⟨l,hl,hok,hget⟩:=pickAll _ _ _ len key
   obtain ⟨bl,off,spot⟩:=a
   have hspot : spot = none:=by
    obtain ⟨b,c,hb,⟨hbl,_⟩,_⟩:=key 0 h0
    obtain ⟨_,hlen,hcell⟩:=World.cells?_some hb
    have g1:=hcell 0 (by rw [h.1];omega)
    obtain ⟨v,hv⟩ : ∃ v,b[0]? = some v:=⟨b[0],List.getElem?_eq_getElem (by omega)⟩
    rw [hv] at g1
    simpa [Addr.add] using World.cell?_spot g1
   subst hspot
   have cellAt : ∀ (i : Nat) c,(flat ty l)[i]? = some c → ∃ y,W.cell? ⟨bl,off + i,none⟩ = some y ∧ Rep W (g0 W) 0 c y:=by
    intro i c hi
    have hlt : i < l.length * csz ty:=by
     have:=(List.getElem?_eq_some_iff.1 hi).1
     rwa [flat_length] at this
    have hdm:=Nat.div_add_mod i (csz ty)
    have hm:=Nat.mod_lt i hcs
    have hq : i / csz ty < l.length:=Nat.div_lt_of_lt_mul (by rw [Nat.mul_comm];exact hlt)
    have hle:=List.getElem?_eq_getElem hq
    have hf:=flat_get ty l (i / csz ty) _ hle (i % csz ty) hm
    rw [Nat.mul_comm,hdm,hi] at hf
    obtain ⟨b,hb,hbl,hrep⟩:=hget _ _ hle
    obtain ⟨_,_,hcell⟩:=World.cells?_some hb
    have g1:=hcell (i % csz ty) (by rw [h.1];exact hm)
    have hbv : b[i % csz ty]? = some (b[i % csz ty]'(by omega)):=List.getElem?_eq_getElem (by omega)
    rw [hbv,add_plain,add_plain,h.1] at g1
    refine ⟨_,?_,hrep _ c _ hf.symm hbv⟩
    rw [← g1]
    congr 2
    rw [Nat.mul_comm (i / csz ty) (csz ty)];omega
   let xs : Nat → Value:=fun i=>(W.cell? ⟨bl,off + i,none⟩).getD undef
   refine ⟨rfl,l,⟨hok,?_⟩,fun i c y h1 h2=>?_⟩
   ·have:=hw _ (.inl rfl)
    rw [List.length_map,List.length_map,hel,hz] at this
    have e2 : len * bsz ty ≤ (len + rest.length) * bsz ty:=Nat.mul_le_mul_right _ (by omega)
    rw [hl]
    have e3 : reachBytes = 140737488351232:=rfl
    omega
   ·rw [get_one h1,get_one h2]
    rw [show len = l.length from hl.symm]
    refine .vec ty l bl off cap xs (by omega) ?_ (fun i c hi=>?_) fun i c hi=>?_
    ·have h00 : 0 < (flat ty l).length:=by rw [flat_length];exact Nat.mul_pos (by omega) hcs
     obtain ⟨y,hy,_⟩:=cellAt 0 _ (List.getElem?_eq_getElem h00)
     show bl < W.heap.size
     simp only [World.cell?] at hy
     rcases Nat.lt_or_ge bl W.heap.size with hb|hb
     ·exact hb
     ·rw [Array.getElem?_eq_none (by simpa using hb)] at hy
      simp at hy
    ·obtain ⟨y,hy,_⟩:=cellAt i c hi
     simp only [xs,hy,Option.getD_some]
    ·obtain ⟨y,hy,hr⟩:=cellAt i c hi
     simp only [xs,hy,Option.getD_some]
     exact hr
def ArgOf (P : Program) (t : TypeId) {α : Type} (c : α → AV) (ok : α → Prop) : Prop:=
 ∀ (W : World) (H : Type) (enc : TypeId × Value → H) (base : Nat) (v : Value) (d : DataW H) (ps : List MemPlace),Value.okWide P W .any base t v → DataW.Trod enc P W 0 (fun _=>true) true t v d ps → (∀ k ∈ d.weights P t,k ≤ reachBytes) →
  ∃ a,ok a ∧ Rep W (g0 W) 0 (c a) v
theorem arg_one {P : Program} {t : TypeId} {α : Type} {c : α → AV} {ok : α → Prop} (h : Reads P t 1 (fun a=>[c a]) ok) (hv : ∀ (W : World) base v,Value.okWide P W .any base t v → v.cells.toList = [v]) : ArgOf P t c ok:=by
 intro W H enc base v d ps hok ⟨fuel,hd⟩ hw
 rw [hv W base v hok] at hd
 obtain ⟨_,a,h1,h2⟩:=h.2.2 W H enc fuel _ (d,ps) hd hw
 exact ⟨a,h1,h2 0 _ _ rfl rfl⟩
theorem arg_agg {P : Program} {t : TypeId} {n : Nat} {α : Type} {cs : α → List AV} {ok : α → Prop} (h : Reads P t n cs ok) (hv : ∀ (W : World) base v,Value.okWide P W .any base t v → ∃ xs,v = .agg xs) : ArgOf P t (fun a=>.agg (cs a)) ok:=by
 intro W H enc base v d ps hok ⟨fuel,hd⟩ hw
 obtain ⟨xs,rfl⟩:=hv W base v hok
 obtain ⟨h0,a,h1,h2⟩:=h.2.2 W H enc fuel _ (d,ps) hd hw
 refine ⟨a,h1,.agg _ xs ?_ fun i c x hc hx=>h2 i c x hc ?_⟩
 ·rw [h.2.1];simpa [Value.cells] using h0.symm
 ·simpa [Value.cells] using hx
theorem arg_slice {P : Program} {t e : TypeId} {ty : Ty} {ok : List (El ty) → Prop} (ht : P.underlying t = some (.slice e)) (h : Reads P t 1 (fun l : List (El ty)=>[.vec ty l]) ok) : ArgOf P t (fun l : List (El ty)=>.vec ty l) ok:=
 arg_one h fun W base v h=>by obtain ⟨a,len,cap,rfl⟩:=okWide_slice ht h;rfl
theorem arg_struct {P : Program} {t : TypeId} {fs : Array Field} {n : Nat} {α : Type} {cs : α → List AV} {ok : α → Prop} (ht : P.underlying t = some (.struct fs)) (h : Reads P t n cs ok) : ArgOf P t (fun a=>.agg (cs a)) ok:=
 arg_agg h fun W base v h=>by obtain ⟨xs,rfl,_⟩:=okWide_struct ht h;exact ⟨xs,rfl⟩
def ArgsOf (P : Program) (ts : List TypeId) {α : Type} (cs : α → List AV) (ok : α → Prop) : Prop:=
 ∀ (W : World) (H : Type) (enc : TypeId × Value → H) (base : Nat) (vs : List Value) (ds : List (DataW H)) (ps : List MemPlace),(∀ (j : Nat) t v,ts[j]? = some t → vs[j]? = some v → Value.okWide P W .any base t v) →
  DataW.TrodAll enc P W 0 (fun _=>true) true ts vs ds ps → (∀ k ∈ DataW.weightsEach P ts ds,k ≤ reachBytes) →
  ∃ a,ok a ∧ (cs a).length = vs.length ∧ ∀ (i : Nat) c y,(cs a)[i]? = some c → vs[i]? = some y → Rep W (g0 W) 0 c y
theorem args_nil (P : Program) : ArgsOf P [] (fun _ : Unit=>[]) (fun _=>True):=by
 intro W H enc base vs ds ps _ h _
 obtain ⟨rfl,_⟩:=trodAll_nil h
 exact ⟨(),trivial,rfl,by simp⟩
theorem args_cons {P : Program} {t : TypeId} {ts : List TypeId} {α β : Type} {c : α → AV} {ok1 : α → Prop} {cs : β → List AV} {ok2 : β → Prop} (h1 : ArgOf P t c ok1) (h2 : ArgsOf P ts cs ok2) :
  ArgsOf P (t :: ts) (fun p : α × β=>c p.1 :: cs p.2) (fun p=>ok1 p.1 ∧ ok2 p.2):=by
 intro W H enc base vs ds ps hok h hw
 obtain ⟨v,vs',d,ds',p,q,rfl,rfl,rfl,hd,hrest⟩:=trodAll_cons h
 simp only [DataW.weightsEach,List.mem_append] at hw
 obtain ⟨a,a1,a2⟩:=h1 W H enc base v d p (hok 0 t v rfl rfl) hd fun k hk=>hw k (.inl hk)
 obtain ⟨b,b1,b2,b3⟩:=h2 W H enc base vs' ds' q (fun j t v ht hv=>hok (j + 1) t v (by simpa using ht) (by simpa using hv)) hrest fun k hk=>hw k (.inr hk)
 refine ⟨(a,b),⟨a1,b1⟩,by simp [b2],fun i c y hc hy=>?_⟩
 cases i with
 | zero=>simp at hc hy;subst hc;subst hy;exact a2
 | succ i=>simp at hc hy;exact b3 i c y hc hy
theorem below_all {H : Type} {enc : TypeId × Value → H} {P : Program} (hl : laidOutB P = true) {W W' : World} (hb : Below W.heap.size W W') : ∀ {ts : List TypeId} {vs : List Value} {ds : List (DataW H)} {ps : List MemPlace},
  (∀ t ∈ ts,P.readableRec t = true ∧ t < P.types.size) → (∀ p ∈ ps,p.block < W.heap.size) → DataW.TrodAll enc P W 0 (fun _=>true) true ts vs ds ps → DataW.TrodAll enc P W' 0 (fun b=>decide (b < W.heap.size)) true ts vs ds ps
 | [],vs,ds,ps,_,_,h=>by
  obtain ⟨rfl,rfl,rfl⟩:=trodAll_nil h
  rfl
 | t :: ts,vs,ds,ps,hr,hp,h=>by
  obtain ⟨v,vs',d,ds',p,q,rfl,rfl,rfl,hd,hrest⟩:=trodAll_cons h
  have h0:=hr t (by simp)
  exact ⟨p,q,Below.trod hl h0.1 h0.2 hd hb fun x hx=>hp x (List.mem_append_left _ hx),below_all hl hb (fun t ht=>hr t (by simp [ht])) (fun x hx=>hp x (List.mem_append_right _ hx)) hrest,rfl⟩
theorem lifted_true {C : Checked} {os : Os} {f : FuncId} {fn : Func} {s : ChangeSpec} {boolT : TypeId} (own : ownKnob C.prog.godebug = none) (started : os.Started) (noInit : C.prog.inits.idxOf? f = none) (hfn : C.prog.funcs[f]? = some fn)
  (hl : laidOutB C.prog = true) (hts : ∀ t ∈ fn.params.toList,C.prog.readableRec t = true ∧ t < C.prog.types.size) (hres : fn.resultTypes = #[boolT]) (hbool : C.prog.underlying boolT = some .bool) (hvars : s.vars = [])
  {H : Type} {enc : TypeId × Value → H}
  (hspec : ∀ ds : List (DataW H),ds.length = fn.params.toList.length → s.fn H ds = { results:=[.lit (.bool true)],args:=ds })
  (witness : ∃ (w : World) (tape : Tape) (i : Input),w.os = os ∧ (w.forCall tape i).Shaped C.prog ∧ i.vars = [] ∧ Input.okWide C.prog (w.forCall tape i) .any w.heap.size f i ∧
   s.pre6 enc C.prog fn [] false (w.forCall tape i).memory i.args ∧ ({} : Assume).holds C.prog (lone (Frame.enter C.prog f i.args .normal) [] (w.forCall tape i)))
  {α : Type} {cs : α → List AV} {ok : α → Prop} (hargs : ArgsOf C.prog fn.params.toList cs ok) (api : ∀ a,ok a → Api C.prog f (cs a) (bol true)) :
  ReturnsInHanded {} C os f .any (s.pre6 enc C.prog fn [] false) (s.post enc C.prog fn false true false false):=by
 refine returnsInHanded_of_change_shaped own started noInit hfn witness ?_
 intro W base args ds gs before hval hW _ hsz _ _
 have hW':=hW
 obtain ⟨p,q,hA,hV,rfl,hfz,hnd⟩:=hW
 rw [hvars] at hV
 obtain ⟨rfl,rfl⟩:=trodVars_none hV
 simp only [List.append_nil] at hW' hsz
 have hvt : s.plain.varTypes C.prog = []:=by simp [DataSpec.varTypes,ChangeSpec.plain,hvars]
 rw [hvt,List.append_nil] at hsz
 simp only [List.all_eq_true,decide_eq_true_eq] at hsz
 obtain ⟨a,h1,h2,h3⟩:=hargs W H enc base args.toList ds p (fun j t v ht hv=>hval j t v (by simpa using ht) (by simpa using hv)) hA hsz
 have hdl : ds.length = fn.params.toList.length:=by
  have : ∀ (ts : List TypeId) (vs : List Value) (ds : List (DataW H)) (ps : List MemPlace),DataW.TrodAll enc C.prog W 0 (fun _=>true) true ts vs ds ps → ds.length = ts.length:=by
   intro ts
   induction ts with
   | nil=>intro vs ds ps h;obtain ⟨_,rfl,_⟩:=trodAll_nil h;rfl
   | cons t ts ih =>
    intro vs ds ps h
    obtain ⟨v,vs',d,ds',p,q,rfl,rfl,rfl,hd,hrest⟩:=trodAll_cons h
    simp [ih _ _ _ hrest]
  exact this _ _ _ _ hA
 refine (api a h1 W (g0 W) args (msim0 W) ⟨by simpa using h2,fun i c x hc hx=>h3 i c x hc (by simpa using hx)⟩).mono fun e W' ⟨x,g',he,hr,_,ht,_⟩=>?_
 have hb : Below W.heap.size W W':=⟨ht.os,ht.tape,ht.output,ht.size.1,fun k hk=>ht.same k hk⟩
 have hx : x = .bool true:=by cases hr;rfl
 subst hx
 have hlt : ∀ x ∈ p,x.block < W.heap.size:=fun x hx=>hW'.lt x (by simpa using hx)
 refine ⟨_,he,ds,[],p,[],p,[],hW',?_,?_,?_,hb.frame _,by simp⟩
 ·rw [List.append_nil,hspec ds hdl,hres]
  exact ⟨[],[],⟨1,by simp [DataW.trod,hbool,Value.cells]⟩,rfl,rfl⟩
 ·rw [List.append_nil,hspec ds hdl]
  exact below_all hl hb hts hlt hA
 ·rw [List.append_nil,hspec ds hdl,hvars]
  rfl
theorem kV {p q : Prop} (h : q) (g : q → p:=by (intro hq;first|exact kL hq|exact kA (by assumption) hq|exact kD (by assumption) hq|exact kW cfg_ok hq|exact kC hq|exact bdA hq|exact bd2 hq|exact bdR hq|exact bdL hq)) : p:=g h
theorem kY {p q r : Prop} (h : p) (k : r) (g : r → q:=by (intro hq;(conv=>whnf);exact hq)) : p ∧ q:=⟨h,g k⟩
theorem kZ {p q : Prop} (h : q) (g : q → p:=by intro hb;first|(exfalso;omega)|contradiction|exact kB hb) : p:=g h
theorem fD0 {p : Prop} (g : p:=by ((conv=>whnf));(repeat' (first|exact trivial|((first|(refine ⟨fun hb=>?_,fun hb=>?_⟩<;>(try simp only [nrm] at hb)<;>try exact kZ hb)|refine kV ?_)<;>(conv=>whnf))|refine kY ?_ ?_));all_goals (first|rfl|omega|assumption|exact List.take_length|(rw [List.drop_zero];exact List.take_length)|exact growO rfl|(simp;done))) : p:=g
theorem fR2 {p a0 a1 : Prop} (h0 : a0) (h1 : a1) (g : a0 → a1 → p:=by (intro h0 h1;(conv=>whnf));(repeat' (first|exact trivial|((first|refine kL ?_|(refine ⟨fun hb=>?_,fun hb=>?_⟩<;>(try simp only [nrm] at hb)<;>try exact kZ hb)|refine kE h0 [(0,0)] rfl ?_|refine kF h0 [(0,0)] rfl ?_|refine kR h0 [(0,0)] rfl ?_|refine kS h0 [(0,0)] rfl ?_|refine kE h1 [(0,0)] rfl ?_|refine kF h1 [(0,0)] rfl ?_|refine kR h1 [(0,0)] rfl ?_|refine kS h1 [(0,0)] rfl ?_|refine kV ?_)<;>(conv=>whnf))|refine kY ?_ ?_));all_goals (first|rfl|omega|assumption|exact List.take_length|(rw [List.drop_zero];exact List.take_length)|exact growO rfl|(simp;done))) : p:=g h0 h1
end Eng
