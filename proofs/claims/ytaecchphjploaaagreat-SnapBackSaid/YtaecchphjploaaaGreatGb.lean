/- The engine, second part: rows, walks through code. -/
import Derived.Test.YtaecchphjploaaaGreatGa
import Derived.Laws.BytesArg
import Derived.MapKept
import Derived.WideKeyRuns
import Derived.Lib.ConvBytes
import Derived.Laws.AppendOwn
import Derived.Lib.Overlaps
set_option linter.unusedSimpArgs false
set_option linter.unusedVariables false
set_option maxRecDepth 100000
set_option maxHeartbeats 16000000
namespace Eng
open Go Go.RowKit
theorem RepL.nil0 {w : World} {g : G} {lim : Nat} : RepL w g lim [] ([] : List Value).toArray:=⟨rfl,fun i c x hc=>by simp at hc⟩
theorem RepL.cons0 {w : World} {g : G} {lim : Nat} {c : AV} {x : Value} {cs : List AV} {xs : List Value} (h : Rep w g lim c x) (h' : RepL w g lim cs xs.toArray) : RepL w g lim (c :: cs) (x :: xs).toArray:=by
 have hl : cs.length = xs.length:=by simpa using h'.1
 refine ⟨by simp [hl],fun i c' x' hc hx=>?_⟩
 cases i with
 | zero=>simp at hc hx;subst hc;subst hx;exact h
 | succ i=>exact h'.2 i c' x' (by simpa using hc) (by simpa using hx)
theorem zc_ok (t : Ty) (w : World) (g : G) (lim : Nat) : RepL w g lim (cells t (dflt t)) (zc t).toArray:=by
 cases t<;>simp only [cells,dflt,zc,bagM]<;>(repeat' (first|exact RepL.nil0|exact .lit _|exact .vecE _ _ _|exact .fecE _ _ _ _|apply RepL.cons0))
theorem info_of {P : Program} {C : Cfg} (hC : CfgOk P C) {e : TypeId} {t : Ty} (h : C.ty e = some t) : ∃ i z,P.info? e = some i ∧ i.size = csz t ∧ i.bytes = bsz t ∧ i.zero = some z ∧ z.cells.toList = zc t:=by
 obtain ⟨h1,h2⟩:=hC.sz e t h
 have h3:=hC.zr e t h
 unfold szOf at h1;unfold byOf at h2;unfold zeroOf at h3
 cases hi : P.info? e with
 | none=>rw [hi] at h1;cases h1
 | some i =>
  rw [hi] at h1 h2 h3
  simp only at h1 h2 h3
  cases hz : i.zero with
  | none=>rw [hz] at h3;cases h3
  | some z =>
   rw [hz] at h3
   exact ⟨i,z,rfl,by simpa using h1,by simpa using h2,hz,by simpa using h3⟩
theorem zc_length (t : Ty) : (zc t).length = csz t:=by cases t<;>rfl
theorem RepL.append {w : World} {g : G} {lim : Nat} {a b : List AV} {x y : List Value} (h : RepL w g lim a x.toArray) (h' : RepL w g lim b y.toArray) : RepL w g lim (a ++ b) (x ++ y).toArray:=by
 have l1 : a.length = x.length:=by simpa using h.1
 have l2 : b.length = y.length:=by simpa using h'.1
 refine ⟨by simp [l1,l2],fun i c z hc hz=>?_⟩
 by_cases hi : i < a.length
 ·rw [List.getElem?_append_left hi] at hc
  simp only [List.getElem?_toArray] at hz
  rw [List.getElem?_append_left (by omega)] at hz
  exact h.2 i c z hc (by simpa using hz)
 ·rw [List.getElem?_append_right (by omega)] at hc
  simp only [List.getElem?_toArray] at hz
  rw [List.getElem?_append_right (by omega)] at hz
  exact h'.2 _ c z hc (by rw [l1];simpa using hz)
theorem run_app_room {P : Program} (w : World) (t tx ty e : TypeId) (i : TypeInfo) (ht : P.underlying t = some (.slice e)) (hi : P.info? e = some i) (b off sLen sCap : Nat) (x : Value) (n : Nat) (news : List Value) (hs : Src P i.size tx x n news w)
  (hroom : sLen + n ≤ sCap) (c : Array Value) (tc : TypeId) (hb : w.heap[b]? = some (.cells c tc (0,0))) (hl : off + sLen * i.size + news.length ≤ c.size) :
  ∃ w',(Builtin.append_ #[t,tx] ty #[.slice (some ⟨b,off,none⟩) sLen sCap,x]).run P w = .ok (.slice (some ⟨b,off,none⟩) (sLen + n) sCap) w' ∧
   w'.heap[b]? = some (.cells (setRange c (off + sLen * i.size) news) tc (0,0)) ∧
   (∀ k,k ≠ b → w'.heap[k]? = w.heap[k]?) ∧ w'.heap.size = w.heap.size ∧ w'.os = w.os ∧ w'.tape = w.tape ∧ w'.output = w.output ∧ w'.drawn = w.drawn:=by
 obtain ⟨w',e1,e2⟩:=run_storeCells (P:=P) b (off + sLen * i.size) tc news hs.one 0 w c hb (by simpa using hl)
 simp only [Nat.add_zero] at e2
 refine ⟨w',?_,e2⟩
 rcases hs.kind with ⟨e',hk⟩|hk<;>simp [Builtin.append_,run_underlying ht,run_underlying hk,Go.sizeOf,typeInfo,hi,hs.len,hroom,hs.cells,Addr.add_lit,e1]
theorem Sim.drew {w : World} {g : G} {lim : Nat} {f : List AV} {m : Nat → Option Blk} {a : Act} (hs : Sim w g lim f m a) : Sim w.drew g lim f m a:=
 ⟨hs.fr.same (fun _ _=>rfl),hs.df,⟨hs.me.al,hs.me.lt,hs.me.nro,hs.me.inj,fun k b h=>(hs.me.blk k b h).mono' ⟨fun _ h=>h,fun _ _=>rfl,.of fun _ _=>rfl⟩ (Nat.le_refl _) (fun _=>rfl) (fun k _ _ h=>⟨h,rfl,rfl⟩),hs.me.rolt,hs.me.nof,hs.me.fj.step (fun _ _=>rfl) hs.me.fj.nro hs.me.fj.nal⟩⟩
theorem put_fgtM {j : Nat} (m : Nat → Option Blk) (k : Nat) : put (fgtM j m) k none = fgtM j (put m k none):=by
 funext i;simp only [fgtM,put];split<;>rfl
def ontoE (base d : Nat) (tt : Ty) (l2 : List (El tt)) (rd2 : List (Nat × Blk)) (K : Act1 → Prop) : Prop:=
 (l2 = [] → K ⟨.emp tt,rd2,[],[]⟩) ∧
 (l2 ≠ [] → l2.length * bsz tt ≤ 140737488355328 ∧ odK base d fun e=>K ⟨.own tt e 0 l2.length none,rd2,[(e,some (.row tt l2))],[e]⟩)
def ontoK (base : Nat) (m : Mem) (dst : Option Nat) (tt : Ty) (l2 : List (El tt)) (rd2 : List (Nat × Blk)) (a : AV) (K : Act1 → Prop) : Prop:=
 match dst with
 | some d=>match Nat.blt (2 * d + 2) 200000 with
  | true=>match a with
   | .own t k off len c=>memK m k fun b=>match b with
    | .row t' l=>match tyB t tt with
     | true=>asK t' tt l fun l =>
      (match Nat.beq off 0 with
       | true=>(len ≤ l.length ∧ (len + l2.length) * bsz tt ≤ 140737488355328) ∧
        odK base d fun e=>K ⟨.own tt e 0 (len + l2.length) none,(k,.row tt l) :: rd2,[(k,none),(e,some (.row tt (l.take len ++ l2)))],[e]⟩
       | false=>False) ∨
      (match c with
       | some c=>(len + l2.length ≤ c ∧ off + len ≤ l.length) ∧
        K ⟨.own tt k off (len + l2.length) (some c),(k,.row tt l) :: rd2,[(k,some (.row tt (l.take (off + len) ++ (l2 ++ l.drop (off + len + l2.length)))))],[]⟩
       | none=>False)
     | false=>False
    | .box _=>False
    | .mp _ _=>False
    | .pm _ _ _=>False
   | .lit (.slice none 0 0)=>ontoE base d tt l2 rd2 K
   | .emp _=>ontoE base d tt l2 rd2 K
   | _=>False
  | false=>False
 | none=>False
def appendK (P : Program) (C : Cfg) (base : Nat) (m : Mem) (dst : Option Nat) (ats : List TypeId) (a b : AV) (K : Act1 → Prop) : Prop:=
 match ats with
 | [t,tx]=>match P.underlying t with
  | some (.slice e)=>match C.ty e with
   | some tt=>match P.underlying tx with
    | some (.slice _)=>srcK m tt b fun l2 rd2=>ontoK base m dst tt l2 rd2 a K
    | _=>False
   | none=>False
  | _=>False
 | _=>False
theorem grow_ok {P : Program} {C : Cfg} (hC : CfgOk P C) {e : TypeId} {tt : Ty} (he : C.ty e = some tt) {t tx ty : TypeId} (ht : P.underlying t = some (.slice e)) {w : World} {g : G} {lim : Nat} {f : List AV} {m : Nat → Option Blk} {a : Act}
  (hs : Sim w g lim f m a) {k : Nat} (hk : k < lim ∨ k % 2 = 1) {l1 l2 : List (El tt)} {news : List Value} {x : Value} (hsrc : Src P (csz tt) tx x l2.length news w) (hnews : RepL w g lim (flat tt l2) news.toArray)
  {bs : Option Addr} {cap : Nat} {olds : List Value} (hold : (Builtin.firstCells (csz tt) l1.length (.slice bs l1.length cap)).run P w.drew = .ok olds.toArray w.drew) (holds : RepL w g lim (flat tt l1) olds.toArray)
  (hg : cap < l1.length + l2.length) (hfit : (l1.length + l2.length) * bsz tt ≤ 140737488355328) (d : Option Nat) :
  ∃ w' r g',(Builtin.append_ #[t,tx] ty #[.slice bs l1.length cap,x]).run P w = .ok r w' ∧
   Sim w' g' lim (fput (fgtL k f) d (.own tt k 0 (l1.length + l2.length) none)) (put (fgtM k m) k (some (.row tt (l1 ++ l2)))) (a.put d r) ∧ Tr g w w' ∧ (∀ base,base ≤ k → LeG base g g'):=by
 obtain ⟨i,z,hi,hsz,hby,hz,hzc⟩:=info_of hC he
 have hb1 : 1 ≤ bsz tt:=by cases tt<;>decide
 have h63 : ((l1.length + l2.length : Nat) : Int) ≤ 9223372036854775807:=by
  have : (l1.length + l2.length) * 1 ≤ (l1.length + l2.length) * bsz tt:=Nat.mul_le_mul_left _ hb1
  omega
 have hrun:=run_append_grow_src (P:=P) w t tx ty e i z ht hi hz bs l1.length cap olds (by rw [hsz];exact hold) x l2.length news (by rw [hsz];exact hsrc) hg h63 (by rw [hby];exact growslice_fits hg hfit)
 have hcap:=grownCap_ge w (l1.length + l2.length) cap e
 generalize hc : grownCap w (l1.length + l2.length) cap e = cap' at hrun hcap
 generalize hcells : (olds ++ news).toArray ++ Builtin.zeroCells z.cells (cap' - (l1.length + l2.length)) = cs at hrun
 have hzs : z.cells.size = csz tt:=by have:=congrArg List.length hzc;rw [zc_length] at this;simpa using this
 have hl1 : olds.length = l1.length * csz tt:=by have:=holds.1;rw [flat_length] at this;simpa using this.symm
 have hl2 : news.length = l2.length * csz tt:=by have:=hnews.1;rw [flat_length] at this;simpa using this.symm
 have hcs : cs.size = cap' * csz tt:=by
  rw [← hcells]
  simp only [Array.size_append,List.size_toArray,List.length_append,size_zeroCells,hzs,hl1,hl2]
  rw [← Nat.add_mul,← Nat.add_mul];congr 1;omega
 have hs2:=hs.drew
 have htr:=Tr.alloc g w.drew (.cells cs e) hs2.me.rolt (fun b hb=>(hs2.me.nof b hb).1)
 have hrep2:=holds.append hnews
 rw [← flat_append] at hrep2
 have hbl : BlkRep (w.drew.alloc (.cells cs e)) (g.bind k w.drew.heap.size cs.size) lim w.drew.heap.size cs.size (.row tt (l1 ++ l2)):=by
  refine BlkRep.mkRow ⟨cs,e,heap_alloc_new w.drew _,rfl,?_,fun j c x hc hx=>?_⟩
  ·rw [flat_length,hcs,List.length_append];exact Nat.mul_le_mul_right _ hcap
  ·have hlt:=(List.getElem?_eq_some_iff.1 hc).1
   have hlen : (flat tt (l1 ++ l2)).length = (olds ++ news).length:=by simpa using hrep2.1
   rw [← hcells,Array.getElem?_append_left (by simp only [List.size_toArray];omega)] at hx
   exact (hrep2.2 j c x hc hx).bind (men_flat hc k) (hs2.me.oldA _)
 refine ⟨_,_,g.bind k w.drew.heap.size cs.size,hrun,hs2.push hk cs e (.row tt (l1 ++ l2)) hbl ?_ d,⟨htr.os,htr.tape,htr.output,⟨htr.size.1,Nat.le_trans (Nat.le_succ _) htr.size.2⟩,htr.same,htr.others⟩,fun base hb=>LeG.bind base g hb _ _⟩
 have : (⟨w.heap.size,0,none⟩ : Addr) = ⟨w.drew.heap.size,0 * csz tt,none⟩:=by simp
 rw [this]
 exact .own tt k 0 _ _ _ none hk hcap (fun n h=>by cases h) fun _=>⟨by simp [G.bind],by simp [G.bind,hcs]⟩
theorem exec_append {P : Program} {o : Oper} {x y : Operand} {t tx : TypeId} (ho : o.op = .call { callee:=.builtin .append,args:=#[x,y],argTypes:=#[t,tx] }) {ρ : Operand → Value} {w w' : World} {r : Value}
  (h : (Builtin.append_ #[t,tx] o.type #[ρ x,ρ y]).run P w = .ok r w') : (execOp ρ o).run P w = .ok (.value r) w':=by
 unfold execOp;rw [ho];simp [resolve,invoke,builtin,h]
theorem row_write {w w' : World} {g : G} {lim : Nat} {tt : Ty} {l l2 : List (El tt)} {p b n : Nat} {c : Array Value} {ty : TypeId} {news : List Value} (hc : c.size = n) (hfl : (flat tt l).length ≤ n)
  (hcells : ∀ (i : Nat) a x,(flat tt l)[i]? = some a → c[i]? = some x → Rep w g lim a x) (hro : ∀ b,g.ro b ∨ g.fr b → w'.heap[b]? = w.heap[b]?)
  (hb : w'.heap[b]? = some (.cells (setRange c (p * csz tt) news) ty (0,0))) (hn : RepL w g lim (flat tt l2) news.toArray) (hp : p ≤ l.length) (hfit : (p + l2.length) * csz tt ≤ n)
  (tail : List (El tt)) (htail : tail = [] ∨ tail = l.drop (p + l2.length)) : BlkRep w' g lim b n (.row tt (l.take p ++ (l2 ++ tail))):=by
 have hnl : news.length = l2.length * csz tt:=by have:=hn.1;rw [flat_length] at this;simpa using this.symm
 have h1 : (flat tt (l.take p)).length = p * csz tt:=by rw [flat_length,List.length_take,Nat.min_eq_left hp]
 have h2 : (flat tt l2).length = l2.length * csz tt:=flat_length _ _
 rw [Nat.add_mul] at hfit
 rw [flat_length] at hfl
 have hsame : ∀ {v x},Rep w g lim v x → Rep w' g lim v x:=fun h=>h.mono (Keeps.ofS hro) (Nat.le_refl _) fun _ _ ha=>⟨ha,rfl,rfl⟩
 have htl : (flat tt tail).length ≤ n - (p * csz tt + l2.length * csz tt):=by
  rcases htail with rfl|rfl
  ·simp [flat]
  ·rw [flat_length,List.length_drop]
   have : (l.length - (p + l2.length)) * csz tt = l.length * csz tt - (p + l2.length) * csz tt:=Nat.sub_mul _ _ _
   rw [this,Nat.add_mul];omega
 refine BlkRep.mkRow ⟨_,ty,hb,by rw [setRange_size];exact hc,by rw [flat_append,flat_append,List.length_append,List.length_append,h1,h2];omega,fun i a x hi hx=>?_⟩
 rw [flat_append,flat_append] at hi
 rw [setRange_get _ _ _ _ (by omega)] at hx
 by_cases hi1 : i < p * csz tt
 ·rw [List.getElem?_append_left (by omega)] at hi
  rw [if_neg (by omega)] at hx
  rw [flat_take,List.getElem?_take,if_pos hi1] at hi
  exact hsame (hcells i a x hi hx)
 ·rw [List.getElem?_append_right (by omega),h1] at hi
  by_cases hi2 : i < p * csz tt + l2.length * csz tt
  ·rw [List.getElem?_append_left (by omega)] at hi
   rw [if_pos (by omega)] at hx
   exact hsame (hn.2 _ a x hi (by simpa using hx))
  ·rw [List.getElem?_append_right (by omega),h2] at hi
   rw [if_neg (by omega)] at hx
   rcases htail with rfl|rfl
   ·simp [flat] at hi
   ·rw [flat_drop,List.getElem?_drop,Nat.add_mul] at hi
    rw [show p * csz tt + l2.length * csz tt + (i - p * csz tt - l2.length * csz tt) = i by omega] at hi
    exact hsame (hcells i a x hi hx)
theorem Sim.toNil {w : World} {g : G} {lim : Nat} {f : List AV} {m : Nat → Option Blk} {a : Act} (hs : Sim w g lim f m a) (k : Nat) {t : Ty} {l : List (El t)} (hk : m k = some (.row t l)) : Sim w g lim f (Eng.put m k (some (.row t []))) a:=by
 have h:=hs.me
 refine ⟨hs.fr,hs.df,fun j=>?_,h.lt,h.nro,h.inj,fun j b hb=>?_,h.rolt,h.nof,h.fj⟩
 ·by_cases hjk : k = j
  ·subst hjk;simp [Eng.put,(h.al k).2 (by simp [hk])]
  ·simp [Eng.put,hjk,h.al j]
 ·by_cases hjk : k = j
  ·subst hjk;rw [put_self] at hb;cases hb
   rcases h.blk k _ hk with ⟨h0,_⟩|⟨h0,c,ty,h1,h2,h3,h4⟩
   ·exact .inl ⟨h0,rfl⟩
   ·exact .inr ⟨h0,c,ty,h1,h2,by simp [flat],fun i a x hi=>by simp [flat] at hi⟩
  ·rw [put_ne _ _ hjk] at hb;exact h.blk j b hb
theorem appendK_ok {P : Program} {C : Cfg} (hC : CfgOk P C) {base : Nat} {m : Mem} {f : List AV} {o : Oper} {x y : Operand} {ats : Array TypeId}
  (ho : o.op = .call { callee:=.builtin .append,args:=#[x,y],argTypes:=ats }) {K : Act1 → Prop} (h : appendK P C base m o.dst ats.toList (aval f x) (aval f y) K) :
  ∃ c,K c ∧ (∀ p ∈ c.rd,mget m p.1 = some p.2) ∧ AOk P base o f c:=by
 unfold appendK at h
 split at h
 case h_2=>exact h.elim
 rename_i t tx hats
 have hats' : ats = #[t,tx]:=by rw [← Array.toArray_toList (xs:=ats),hats]
 subst hats'
 split at h
 case h_2=>exact h.elim
 rename_i e ht
 cases hce : C.ty e with
 | none=>rw [hce] at h;exact h.elim
 | some tt =>
 rw [hce] at h
 simp only at h
 split at h
 case h_2=>exact h.elim
 rename_i e' htx
 obtain ⟨l2,rd2,h,hrd2,hy⟩:=srcK_ok h
 obtain ⟨i0,z0,hi0,hsz0,hby0,hz0,hzc0⟩:=info_of hC hce
 have hxm : x ∈ o.op.operands.toList:=by rw [ho];simp [Op.operands,Call.operands]
 have hym : y ∈ o.op.operands.toList:=by rw [ho];simp [Op.operands,Call.operands]
 unfold ontoK at h
 cases hd : o.dst with
 | none=>rw [hd] at h;exact h.elim
 | some d =>
 rw [hd] at h
 simp only at h
 cases hbl : Nat.blt (2 * d + 2) 200000 with
 | false=>rw [hbl] at h;exact h.elim
 | true =>
 rw [hbl] at h
 have hkl : base + (2 * d + 1) < base + L ∨ (base + (2 * d + 1)) % 2 = 1:=.inl (idlt base d hbl).2
 have empty : ontoE base d tt l2 rd2 K → (∀ (w : World) (g : G) (lim : Nat) (v : Value),Rep w g lim (aval f x) v → ∃ ad,v = .slice ad 0 0) → ∃ c,K c ∧ (∀ p ∈ c.rd,mget m p.1 = some p.2) ∧ AOk P base o f c:=by
  intro h hnil
  by_cases hl2 : l2 = []
  ·subst hl2
   refine ⟨_,h.1 rfl,hrd2,AOk.val fun f' m' w g a hs hop hrd=>?_⟩
   obtain ⟨news,hn⟩:=hy m' w g (base + L) (a.eval y) hs.me hrd (hop y hym)
   obtain ⟨ad,hE⟩:=hnil _ _ _ _ (hop x hxm)
   have hsrc:=hn.src (P:=P) htx
   have hcl:=hsrc.cells
   rw [← hsz0] at hcl
   simp only [List.length_nil] at hcl
   have hnn : news = []:=List.eq_nil_of_length_eq_zero (by rw [hn.len];simp)
   subst hnn
   refine ⟨.slice ad 0 0,?_,.emp _ _⟩
   refine exec_append ho ?_
   rw [hE]
   cases ad<;>simp [Builtin.append_,run_underlying ht,run_underlying htx,Go.sizeOf,typeInfo,hi0,hsrc.len,hcl,storeCells]
  ·obtain ⟨hfit,hK⟩:=h.2 hl2
   rw [odK_eq] at hK
   refine ⟨_,hK,hrd2,fun f' m' hop hrd w g a hs N Q hN=>?_⟩
   obtain ⟨news,hn⟩:=hy m' w g (base + L) (a.eval y) hs.me hrd (hop y hym _ _ _ _ (rep_aval hs y))
   obtain ⟨ad,hE⟩:=hnil _ _ _ _ (hop x hxm _ _ _ _ (rep_aval hs x))
   have hpos : 0 < l2.length:=by cases l2 with|nil=>exact absurd rfl hl2|cons _ _=>simp
   have hl0 : ∀ b : Addr,(loadCells b 0).run P w.drew = .ok #[] w.drew:=fun b=>by simpa using run_loadCells_list (P:=P) w.drew b [] (by simp)
   obtain ⟨w',r,g',r1,r2,r3,r4⟩:=grow_ok hC hce (t:=t) (tx:=tx) (ty:=o.type) ht hs hkl (l1:=[]) (l2:=l2) (hn.src (P:=P) htx) hn.rep (bs:=ad) (cap:=0) (olds:=[])
    (by cases ad<;>simp [Builtin.firstCells,hl0]) ⟨rfl,fun i c x hc=>by simp [flat] at hc⟩ (by simpa using hpos) (by simpa using hfit) o.dst
   unfold Oper.wp
   rw [exec_append ho (by rw [hE];exact r1),Oper.upon_value]
   refine hN w' g' _ ?_ r3 (r4 base (Nat.le_add_right _ _))
   simp only [List.length_nil,Nat.zero_add,List.nil_append] at r2
   exact r2
 simp only at h
 split at h
 ·rename_i t1 k off len c hax
  obtain ⟨b,hb,h⟩:=memK_ok h
  cases b with
  | box cs=>exact h.elim
  | mp _ _=>exact h.elim
  | pm _ _ _=>exact h.elim
  | row t' l =>
  simp only at h
  cases htb : tyB t1 tt with
  | false=>rw [htb] at h;exact h.elim
  | true =>
  rw [htb] at h
  have e1:=tyB_ok htb
  subst e1
  obtain ⟨e2,h5⟩:=asK_ok h
  clear h
  subst e2
  have h:=h5
  clear h5
  have common : ∀ {f' : List AV} {m' : Nat → Option Blk} {w : World} {g : G} {a : Act},Sim w g (base + L) f' m' a → (∀ x ∈ o.op.operands.toList,Le (aval f' x) (aval f x)) → m' k = some (.row t' l) → (∀ p ∈ rd2,m' p.1 = some p.2) →
    ∃ news,g.al k ∧ Yields2 w g (base + L) t' (a.eval y) l2 news ∧
     ((∃ ad,a.eval x = .slice ad 0 0 ∧ len = 0 ∧ (∀ n,c = some n → n = 0)) ∨
     (∃ cap c0 ty0,0 < g.sz k ∧ a.eval x = .slice (some ⟨g.be k,off * csz t',none⟩) len cap ∧ len ≤ cap ∧ (∀ n,c = some n → cap = n) ∧ (off + cap) * csz t' ≤ g.sz k ∧
     w.heap[g.be k]? = some (.cells c0 ty0 (0,0)) ∧ c0.size = g.sz k ∧ (flat t' l).length ≤ g.sz k ∧ (∀ (i : Nat) a x,(flat t' l)[i]? = some a → c0[i]? = some x → Rep w g (base + L) a x))):=by
   intro f' m' w g a hs hop hmk hm2
   have hal : g.al k:=(hs.me.al k).2 (by simp [hmk])
   have hrx:=hop x hxm _ _ _ _ (rep_aval hs x)
   rw [hax] at hrx
   obtain ⟨news,hn⟩:=hy m' w g (base + L) (a.eval y) hs.me hm2 (hop y hym _ _ _ _ (rep_aval hs y))
   refine ⟨news,hal,hn,?_⟩
   generalize hE : a.eval x = E at hrx
   cases hrx with
   | own _ _ _ _ b cap _ hk hc hcc hh =>
    obtain ⟨rfl,h2⟩:=hh hal
    rcases Nat.eq_zero_or_pos (g.sz k) with hz|hz
    ·have hcz:=csz_pos t'
     have : cap = 0:=by
      rcases Nat.eq_zero_or_pos cap with h0|h0
      ·exact h0
      ·have:=Nat.mul_pos (show 0 < off + cap by omega) hcz;omega
     subst this
     exact .inl ⟨_,by rw [Nat.le_zero.1 hc],Nat.le_zero.1 hc,fun n hn=>(hcc n hn).symm⟩
    ·obtain ⟨c0,ty0,b1,b2,b3,b4⟩:=(hs.me.blk k _ hmk).getRow hz
     exact .inr ⟨cap,c0,ty0,hz,rfl,hc,hcc,h2,b1,b2,b3,b4⟩
   | ownE _ _ _ _ ad hk hcc=>exact .inl ⟨ad,rfl,rfl,hcc⟩
  -- what is appended to is nothing
  have none0 : ∀ {w : World} {g : G} {a : Act} {ad : Option Addr} {news : List Value},a.eval x = .slice ad 0 0 → Yields2 w g (base + L) t' (a.eval y) [] news →
    (execOp a.eval o).run P w = .ok (.value (.slice ad 0 0)) w:=by
   intro w g a ad news hE hn
   have hsrc:=hn.src (P:=P) htx
   have hcl:=hsrc.cells
   rw [← hsz0] at hcl
   simp only [List.length_nil] at hcl
   have hnn : news = []:=List.eq_nil_of_length_eq_zero (by rw [hn.len];simp)
   subst hnn
   refine exec_append ho ?_
   rw [hE]
   cases ad<;>simp [Builtin.append_,run_underlying ht,run_underlying htx,Go.sizeOf,typeInfo,hi0,hsrc.len,hcl,storeCells]
  rcases h with h|h
  ·cases hoff : Nat.beq off 0 with
   | false=>rw [hoff] at h;exact h.elim
   | true =>
   rw [hoff] at h
   obtain ⟨⟨hle,hfit⟩,hK⟩:=h
   rw [odK_eq] at hK
   have hoff0:=nbt.1 hoff
   subst hoff0
   refine ⟨_,hK,fun p hp=>?_,fun f' m' hop hrd w g a hs N Q hN=>?_⟩
   ·rcases List.mem_cons.1 hp with rfl|hp
    ·exact hb
    ·exact hrd2 p hp
   have hmk : m' k = some (.row t' l):=hrd (k,.row t' l) (by simp)
   obtain ⟨news,hal,hn,hcase⟩:=common hs hop hmk (fun p hp=>hrd p (by simp [hp]))
   rcases hcase with ⟨ad,hE,rfl,hcc⟩|⟨cap,c0,ty0,hz0,hE,hc,hcc,hsz,b1,b2,b3,b4⟩
   ·by_cases hl2 : l2 = []
    ·subst hl2
     have hrun:=none0 hE hn
     have hs2:=hs.fgt (base + (2 * d + 1))
     have hk2 : fgtM (base + (2 * d + 1)) m' k = some (.row t' l):=by simp [fgtM,hmk,fgtB]
     have hs3 : Sim w (g.ren k (base + (2 * d + 1))) (base + L) (fgtL (base + (2 * d + 1)) f') (put (put (fgtM (base + (2 * d + 1)) m') k none) (base + (2 * d + 1)) (some (.row t' l))) a:=
      ⟨hs2.fr.ren (menL_fgtL _ _),hs2.df,hs2.me.ren hkl hk2 (fun i b hb=>by
       simp only [fgtM,Option.map_eq_some_iff] at hb
       obtain ⟨b',_,rfl⟩:=hb
       exact menB_fgtB _ b')⟩
     have hs4:=hs3.toNil (base + (2 * d + 1)) (t:=t') (l:=l) (put_self _ _ _)
     unfold Oper.wp
     rw [hrun,Oper.upon_value]
     refine hN w _ _ (?_ : Sim w (g.ren k (base + (2 * d + 1))) (base + L) (fput (fgtL (base + (2 * d + 1)) f') o.dst (.own t' (base + (2 * d + 1)) 0 0 none)) _ _) (Tr.refl g w) (LeG.ren (Nat.le_add_right _ _))
     have:=hs4.put (v:=.own t' (base + (2 * d + 1)) 0 0 none) (x:=.slice ad 0 0) (.ownE _ _ _ _ _ hkl (fun n h=>by cases h)) o.dst
     simp only [Act1.me,fgtsM,putsM,List.take_zero,List.append_nil]
     have hmem : put (put (put (fgtM (base + (2 * d + 1)) m') k none) (base + (2 * d + 1)) (some (.row t' l))) (base + (2 * d + 1)) (some (.row t' [])) = put (put (fgtM (base + (2 * d + 1)) m') k none) (base + (2 * d + 1)) (some (.row t' [])):=by
      funext i;simp only [put];split<;>rfl
     rw [hmem] at this
     exact this
    ·have hpos : 0 < l2.length:=by cases l2 with|nil=>exact absurd rfl hl2|cons _ _=>simp
     have hl0 : ∀ b : Addr,(loadCells b 0).run P w.drew = .ok #[] w.drew:=fun b=>by simpa using run_loadCells_list (P:=P) w.drew b [] (by simp)
     have hsk : Sim w (g.kill k) (base + L) f' (put m' k none) a:=⟨hs.fr.kill k,hs.df,hs.me.kill k⟩
     obtain ⟨w',r,g',r1,r2,r3,r4⟩:=grow_ok hC hce (t:=t) (tx:=tx) (ty:=o.type) ht hsk hkl (l1:=[]) (l2:=l2) (hn.src (P:=P) htx) (hn.rep.kill k) (bs:=ad) (cap:=0) (olds:=[])
      (by cases ad<;>simp [Builtin.firstCells,hl0]) ⟨rfl,fun i c x hc=>by simp [flat] at hc⟩ (by simpa using hpos) (by simpa using hfit) o.dst
     unfold Oper.wp
     rw [exec_append ho (by rw [hE];exact r1),Oper.upon_value]
     refine hN w' g' _ ?_ ⟨r3.os,r3.tape,r3.output,r3.size,r3.same,r3.others⟩ ((LeG.kill base g k).trans (r4 base (Nat.le_add_right _ _)))
     simp only [Act1.fr,Act1.me,fgtsF,fgtsM,putsM,put_fgtM]
     simp only [List.length_nil,Nat.zero_add,List.nil_append] at r2
     simpa using r2
   simp only [Nat.zero_mul,Nat.zero_add] at hE hsz
   have hnl:=hn.len
   have hsrc:=hn.src (P:=P) htx
   by_cases hroom : len + l2.length ≤ cap
   ·have hmul : (len + l2.length) * csz t' ≤ cap * csz t':=Nat.mul_le_mul_right _ hroom
    rw [Nat.add_mul] at hmul
    obtain ⟨w',r1,r2,r3,r4,r5,r6,r7,r8⟩:=run_app_room (P:=P) w t tx o.type e i0 ht hi0 (g.be k) 0 len cap (a.eval y) l2.length news (by rw [hsz0];exact hsrc) hroom c0 ty0 b1 (by rw [hsz0];omega)
    have hro : ∀ b,g.ro b ∨ g.fr b → w'.heap[b]? = w.heap[b]?:=fun b hr=>r3 b (hs.me.ne hal hz0 b hr)
    rw [hsz0,Nat.zero_add] at r2
    have hblk:=row_write (l2:=l2) b2 b3 b4 hro r2 hn.rep hle (by rw [Nat.add_mul];omega) [] (.inl rfl)
    rw [List.append_nil] at hblk
    unfold Oper.wp
    rw [exec_append ho (by rw [hE];exact r1),Oper.upon_value]
    have hs1 : Sim w' g (base + L) f' (put m' k (some (.row t' (l.take len ++ l2)))) a:=⟨hs.fr.same hro,hs.df,hs.me.write hal hz0 _ (by omega) (fun b hb _=>r3 b hb) hblk⟩
    have hs2:=hs1.fgt (base + (2 * d + 1))
    have hk2 : fgtM (base + (2 * d + 1)) (put m' k (some (.row t' (l.take len ++ l2)))) k = some (.row t' (l.take len ++ l2)):=by simp [fgtM,put,fgtB]
    have hs3 : Sim w' (g.ren k (base + (2 * d + 1))) (base + L) (fgtL (base + (2 * d + 1)) f') (put (put (fgtM (base + (2 * d + 1)) (put m' k (some (.row t' (l.take len ++ l2))))) k none) (base + (2 * d + 1)) (some (.row t' (l.take len ++ l2)))) a:=
     ⟨hs2.fr.ren (menL_fgtL _ _),hs2.df,hs2.me.ren hkl hk2 (fun i b hb=>by
      simp only [fgtM,Option.map_eq_some_iff] at hb
      obtain ⟨b',_,rfl⟩:=hb
      exact menB_fgtB _ b')⟩
    have hmem : put (put (fgtM (base + (2 * d + 1)) (put m' k (some (.row t' (l.take len ++ l2))))) k none) (base + (2 * d + 1)) (some (.row t' (l.take len ++ l2))) =
      put (put (fgtM (base + (2 * d + 1)) m') k none) (base + (2 * d + 1)) (some (.row t' (l.take len ++ l2))):=by
     funext i;simp only [put,fgtM]
     split
     ·rfl
     ·split
      ·rfl
      ·rename_i h1 h2;simp [h2]
    rw [hmem] at hs3
    refine hN w' (g.ren k (base + (2 * d + 1))) _ (hs3.put (v:=.own t' (base + (2 * d + 1)) 0 (len + l2.length) none) ?_ o.dst) ⟨r5,r6,r7,⟨by omega,by omega⟩,fun b hb=>hro b (.inl hb),fun b hb=>r3 b (fun e=>(hs.me.nof b hb).2.2 k hal hz0 e.symm)⟩ (LeG.ren (Nat.le_add_right _ _))
    have : (⟨g.be k,0,none⟩ : Addr) = ⟨g.be k,0 * csz t',none⟩:=by simp
    rw [this]
    exact .own t' _ 0 _ _ cap none hkl hroom (fun n h=>by cases h) fun _=>⟨by simp [G.ren,G.bind],by simp [G.ren,G.bind,G.kill];exact hsz⟩
   ·have hsk : Sim w (g.kill k) (base + L) f' (put m' k none) a:=⟨hs.fr.kill k,hs.df,hs.me.kill k⟩
    have hl1 : (l.take len).length = len:=by rw [List.length_take,Nat.min_eq_left hle]
    -- what is copied
    have hself : srcK [(k,.row t' l)] t' (.own t' k 0 len c) (fun l' rd=>l' = l.take len ∧ rd = [(k,.row t' l)]):=by
     simp only [srcK,memK,Nat.beq_refl]
     have h1 : tyB t' t' = true:=by simp [tyB,Nat.beq_refl]
     rw [h1]
     have h2 : castL t' t' l = some l:=by cases t'<;>rfl
     simp only [asK,h2,List.drop_zero,Nat.zero_add]
     refine ⟨hle,?_⟩
     simp
    obtain ⟨l',rd',⟨rfl,rfl⟩,_,hself⟩:=srcK_ok hself
    obtain ⟨olds,ho2⟩:=hself m' w g (base + L) (a.eval x) hs.me (by simpa using hmk) (by
     rw [hE]
     have : (⟨g.be k,0,none⟩ : Addr) = ⟨g.be k,0 * csz t',none⟩:=by simp
     rw [this]
     exact .own t' k 0 len _ cap c (by have:=hs.me.lt k hal;exact this) hc hcc fun _=>⟨rfl,by simpa using hsz⟩)
    have hosrc:=ho2.src (P:=P) htx
    rw [hE] at hosrc
    have hold:=hosrc.cellsD
    rw [hl1] at hold
    obtain ⟨w',r,g',r1,r2,r3,r4⟩:=grow_ok hC hce (t:=t) (tx:=tx) (ty:=o.type) ht hsk hkl (l1:=l.take len) (l2:=l2) hsrc (hn.rep.kill k) (bs:=some ⟨g.be k,0,none⟩) (cap:=cap) (olds:=olds)
     (by rw [hl1];exact hold) (ho2.rep.kill k) (by rw [hl1];omega) (by rw [hl1];exact hfit) o.dst
    rw [hl1] at r1 r2
    unfold Oper.wp
    rw [exec_append ho (by rw [hE];exact r1),Oper.upon_value]
    refine hN w' g' _ ?_ ⟨r3.os,r3.tape,r3.output,r3.size,r3.same,r3.others⟩ ((LeG.kill base g k).trans (r4 base (Nat.le_add_right _ _)))
    simp only [Act1.fr,Act1.me,fgtsF,fgtsM,putsM,put_fgtM]
    exact r2
  ·cases c with
   | none=>exact h.elim
   | some c =>
   obtain ⟨⟨hle,hle2⟩,hK⟩:=h
   refine ⟨_,hK,fun p hp=>?_,fun f' m' hop hrd w g a hs N Q hN=>?_⟩
   ·rcases List.mem_cons.1 hp with rfl|hp
    ·exact hb
    ·exact hrd2 p hp
   have hmk : m' k = some (.row t' l):=hrd (k,.row t' l) (by simp)
   obtain ⟨news,hal,hn,hcase⟩:=common hs hop hmk (fun p hp=>hrd p (by simp [hp]))
   rcases hcase with ⟨ad,hE,rfl,hcc⟩|⟨cap,c0,ty0,hz0,hE,hc,hcc,hsz,b1,b2,b3,b4⟩
   ·obtain rfl:=hcc c rfl
    have hl2 : l2 = []:=List.eq_nil_of_length_eq_zero (by omega)
    subst hl2
    have hrun:=none0 hE hn
    have hput : put m' k (some (.row t' l)) = m':=by
     funext i;simp only [put];split
     ·rename_i e;rw [← e,hmk]
     ·rfl
    unfold Oper.wp
    rw [hrun,Oper.upon_value]
    have:=hs.put (v:=.own t' k off 0 (some 0)) (x:=.slice ad 0 0) (.ownE _ _ _ _ _ (hs.me.lt k hal) (fun n h=>by cases h;rfl)) o.dst
    refine hN w g _ ?_ (Tr.refl g w) (LeG.refl base g)
    simp only [Act1.fr,Act1.me,fgtsF,fgtsM,putsM,List.nil_append,List.length_nil,Nat.add_zero,List.take_append_drop,hput]
    exact this
   obtain rfl:=hcc c rfl
   have hnl:=hn.len
   have hsrc:=hn.src (P:=P) htx
   have hmul : (off + (len + l2.length)) * csz t' ≤ (off + cap) * csz t':=Nat.mul_le_mul_right _ (by omega)
   have hmul2 : (off + (len + l2.length)) * csz t' = (off * csz t' + len * csz t') + l2.length * csz t':=by rw [Nat.add_mul,Nat.add_mul];omega
   obtain ⟨w',r1,r2,r3,r4,r5,r6,r7,r8⟩:=run_app_room (P:=P) w t tx o.type e i0 ht hi0 (g.be k) (off * csz t') len cap (a.eval y) l2.length news (by rw [hsz0];exact hsrc) hle c0 ty0 b1 (by rw [hsz0];omega)
   have hro : ∀ b,g.ro b ∨ g.fr b → w'.heap[b]? = w.heap[b]?:=fun b hr=>r3 b (hs.me.ne hal hz0 b hr)
   rw [hsz0,← Nat.add_mul] at r2
   have hblk:=row_write (l2:=l2) b2 b3 b4 hro r2 hn.rep hle2 (by rw [Nat.add_assoc];omega) (l.drop (off + len + l2.length)) (.inr rfl)
   unfold Oper.wp
   rw [exec_append ho (by rw [hE];exact r1),Oper.upon_value]
   have hs1 : Sim w' g (base + L) f' (put m' k (some (.row t' (l.take (off + len) ++ (l2 ++ l.drop (off + len + l2.length)))))) a:=⟨hs.fr.same hro,hs.df,hs.me.write hal hz0 _ (by omega) (fun b hb _=>r3 b hb) hblk⟩
   refine hN w' g _ (hs1.put (v:=.own t' k off (len + l2.length) (some cap)) ?_ o.dst) ⟨r5,r6,r7,⟨by omega,by omega⟩,fun b hb=>hro b (.inl hb),fun b hb=>r3 b (fun e=>(hs.me.nof b hb).2.2 k hal hz0 e.symm)⟩ (LeG.refl base g)
   exact .own t' k off _ _ cap (some cap) (hs.me.lt k hal) hle (fun n h=>by cases h;rfl) fun _=>⟨rfl,hsz⟩
 ·rename_i hax
  exact empty h (fun w g lim x hr=>⟨none,by rw [hax] at hr;exact rep_lit hr⟩)
 ·rename_i te hax
  exact empty h (fun w g lim x hr=>by rw [hax] at hr;cases hr with|emp _ ad=>exact ⟨ad,rfl⟩)
 ·exact h.elim
open Go Go.RowKit
theorem madeCells_ok {z : Array Value} {tt : Ty} (hz : z.toList = zc tt) (n : Nat) (w : World) (g : G) (lim : Nat) : RepL w g lim (flat tt (List.replicate n (dflt tt))) (madeCells z (n * csz tt)):=by
 have hzs : z.size = csz tt:=by have:=congrArg List.length hz;rw [zc_length] at this;simpa using this
 have hp:=csz_pos tt
 refine ⟨by rw [flat_length,List.length_replicate,size_madeCells],fun i c x hc hx=>?_⟩
 have hlt : i < n * csz tt:=by have:=(List.getElem?_eq_some_iff.1 hc).1;rw [flat_length,List.length_replicate] at this;exact this
 have hm : i % csz tt < csz tt:=Nat.mod_lt _ hp
 have hq : i / csz tt < n:=Nat.div_lt_of_lt_mul (by rw [Nat.mul_comm];exact hlt)
 have hi : i = i / csz tt * csz tt + i % csz tt:=by rw [Nat.mul_comm];exact (Nat.div_add_mod i (csz tt)).symm
 rw [hi,flat_get tt _ (i / csz tt) (dflt tt) (by rw [List.getElem?_replicate,if_pos hq]) _ hm] at hc
 have hxz : (zc tt).toArray[i % csz tt]? = some x:=by
  unfold madeCells at hx
  rw [Array.getElem?_map,Array.getElem?_range,if_pos hlt] at hx
  simp only [Option.map_some,Option.some.injEq] at hx
  rw [← hx,hzs,← hz]
  have hlt2 : i % csz tt < z.size:=by omega
  simp [hlt2]
 exact (zc_ok tt w g lim).2 _ c x hc hxz
theorem newRow_ok {P : Program} {base d : Nat} (hd : Nat.blt (2 * d + 2) 200000 = true) {o : Oper} {f' : List AV} {m' : Nat → Option Blk} {w : World} {g : G} {a : Act} (hs : Sim w g (base + L) f' m' a) {tt : Ty} {l : List (El tt)} {len cap : Nat} (hlc : len ≤ cap)
  {cs : Array Value} {e : TypeId} (hcs : cs.size = cap * csz tt) (hrep : RepL w g (base + L) (flat tt l) cs)
  (hrun : (execOp a.eval o).run P w = .ok (.value (.slice (some ⟨w.heap.size,0,none⟩) len cap)) (w.alloc (.cells cs e))) :
  ∀ (K : Act → World → Prop) (Q : Exit → Act → World → Prop),
  (∀ w' g' a',Sim w' g' (base + L) (fput (fgtL (base + (2 * d + 1)) f') o.dst (.own tt (base + (2 * d + 1)) 0 len (some cap))) (put (fgtM (base + (2 * d + 1)) m') (base + (2 * d + 1)) (some (.row tt l))) a' → Tr g w w' → LeG base g g' → K a' w') → o.wp P a w K Q:=by
 intro K Q hK
 have hkl : base + (2 * d + 1) < base + L ∨ (base + (2 * d + 1)) % 2 = 1:=.inl (idlt base d hd).2
 have htr:=Tr.alloc g w (.cells cs e) hs.me.rolt (fun b hb=>(hs.me.nof b hb).1)
 unfold Oper.wp
 rw [hrun,Oper.upon_value]
 refine hK _ (g.bind (base + (2 * d + 1)) w.heap.size cs.size) _ (hs.push hkl cs e (.row tt l) (BlkRep.mkRow ⟨cs,e,heap_alloc_new w _,rfl,?_,fun i c x hc hx=>?_⟩) ?_ o.dst) htr (LeG.bind base g (Nat.le_add_right _ _) _ _)
 ·have:=hrep.1;omega
 ·exact (hrep.2 i c x hc hx).bind (men_flat hc _) (hs.me.oldA _)
 ·have : (⟨w.heap.size,0,none⟩ : Addr) = ⟨w.heap.size,0 * csz tt,none⟩:=by simp
  rw [this]
  exact .own tt _ 0 _ _ cap _ hkl hlc (fun n h=>by cases h;rfl) fun _=>⟨by simp [G.bind],by simp [G.bind,hcs]⟩
def makeK (P : Program) (C : Cfg) (base : Nat) (dst : Option Nat) (t : TypeId) (a b : AV) (K : Act1 → Prop) : Prop:=
 match dst with
 | some d=>match Nat.blt (2 * d + 2) 200000 with
  | true=>match P.underlying t with
   | some (.slice e)=>match C.ty e with
    | some tt=>match a with
     | .lit (.int _ l)=>match b with
      | .lit (.int _ c)=>(0 ≤ l ∧ l ≤ c ∧ c * bsz tt ≤ 140737488355328) ∧
       odK base d fun e=>K ⟨.own tt e 0 l.toNat (some c.toNat),[],[(e,some (.row tt (List.replicate c.toNat (dflt tt))))],[e]⟩
      | _=>False
     | _=>False
    | none=>False
   | _=>False
  | false=>False
 | none=>False
theorem makeK_ok {P : Program} {C : Cfg} (hC : CfgOk P C) {base : Nat} {m : Mem} {f : List AV} {o : Oper} {t : TypeId} {x y : Operand} (ho : o.op = .makeSlice t x y) {K : Act1 → Prop} (h : makeK P C base o.dst t (aval f x) (aval f y) K) :
  ∃ c,K c ∧ (∀ p ∈ c.rd,mget m p.1 = some p.2) ∧ AOk P base o f c:=by
 unfold makeK at h
 split at h
 case h_2=>exact h.elim
 rename_i d hd
 cases hb : Nat.blt (2 * d + 2) 200000 with
 | false=>rw [hb] at h;exact h.elim
 | true =>
 rw [hb] at h
 simp only at h
 split at h
 case h_2=>exact h.elim
 rename_i e ht
 cases hce : C.ty e with
 | none=>rw [hce] at h;exact h.elim
 | some tt =>
 rw [hce] at h
 simp only at h
 split at h
 case h_2=>exact h.elim
 rename_i k1 l hx
 split at h
 case h_2=>exact h.elim
 rename_i k2 c hy
 obtain ⟨⟨h0,hlc,hfit⟩,hK⟩:=h
 rw [odK_eq] at hK
 obtain ⟨i,z,hi,hsz,hby,hz,hzc⟩:=info_of hC hce
 refine ⟨_,hK,by simp,fun f' m' hop hrd w g a hs N Q hN=>?_⟩
 have hrx:=hop x (by rw [ho];simp [Op.operands]) _ _ _ _ (rep_aval hs x)
 have hry:=hop y (by rw [ho];simp [Op.operands]) _ _ _ _ (rep_aval hs y)
 rw [hx] at hrx;rw [hy] at hry
 have ex:=rep_lit hrx
 have ey:=rep_lit hry
 have hb1 : 1 ≤ bsz tt:=by cases tt<;>decide
 have hcm : c * 1 ≤ c * (bsz tt : Int):=Int.mul_le_mul_of_nonneg_left (by omega) (by omega)
 have hrun:=run_makeSlice (P:=P) (w:=w) t e i z ht hi hz k1 k2 l c h0 hlc
 have hrun : (Instr.makeSlice t (.int k1 l) (.int k2 c)).run P w = .ok (.slice (some ⟨w.heap.size,0,none⟩) l.toNat c.toNat) (w.alloc (.cells (madeCells z.cells (c.toNat * i.size)) e)):=
  run_make w t e i z ht hi hz k1 k2 l c h0 hlc (by rw [hby,Int.mul_comm];omega) (by omega)
 rw [hsz] at hrun
 refine newRow_ok hb hs (len:=l.toNat) (cap:=c.toNat) (tt:=tt) (l:=List.replicate c.toNat (dflt tt)) (by omega) (cs:=madeCells z.cells (c.toNat * csz tt)) (e:=e) (size_madeCells _ _) (madeCells_ok hzc _ w g _) ?_ N Q ?_
 ·unfold execOp;rw [ho];simp [ex,ey,hrun]
 ·exact hN
def bndK (x : Option Operand) (f : List AV) (d : Option Int) (K : Option Int → Prop) : Prop:=
 match x with
 | none=>K d
 | some x=>avalK f x fun v=>match v with|.lit (.int _ n)=>K (some n)|_=>False
def partK (tt : Ty) (k off : Nat) (a b up : Int) (c : Option Nat) (K : AV → Prop) : Prop:=
 (0 ≤ a ∧ a ≤ b ∧ b ≤ up) ∧ K (.own tt k (a.toNat + off) (b - a).toNat c)
def sliceK2 (P : Program) (t : TypeId) (v : AV) (f : List AV) (lo hi mx : Option Operand) (K : AV → Prop) : Prop:=
 match P.underlying t with
 | some (.slice e)=>match v with
  | .vec tt l=>match mx with
   | none=>match szOf P e with
    | some z=>match Nat.beq z (csz tt) with
     | true=>bndK lo f (some 0) fun a=>bndK hi f (some l.length) fun b=>match a with
      | some a=>match b with
       | some b=>(0 ≤ a ∧ a ≤ b ∧ b ≤ l.length) ∧ K (.vec tt ((l.drop a.toNat).take (b - a).toNat))
       | none=>False
      | none=>False
     | false=>False
    | none=>False
   | some _=>False
  | .own tt k off len c=>match szOf P e with
   | some z=>match Nat.beq z (csz tt) with
    | true=>bndK lo f (some 0) fun a=>match a with
     | some a=>match mx with
      | none=>bndK hi f (some len) fun b=>match b with
       | some b=>match c with
        | none=>partK tt k off a b len none K
        | some c=>partK tt k off a b c (some (c - a.toNat)) K
       | none=>False
      | some mx=>bndK hi f none fun b=>match b with
       | some b=>bndK (some mx) f none fun n=>match n with
        | some n=>match c with
         | none=>n ≤ len ∧ partK tt k off a b n (some (n - a).toNat) K
         | some c=>n ≤ c ∧ partK tt k off a b n (some (n - a).toNat) K
        | none=>False
       | none=>False
     | none=>False
    | false=>False
   | none=>False
  | .emp te=>match mx with
   | none=>match szOf P e with
    | some _=>bndK lo f (some 0) fun a=>bndK hi f (some 0) fun b=>match a with
     | some a=>match b with
      | some b=>(a = 0 ∧ b = 0) ∧ K (.emp te)
      | none=>False
     | none=>False
    | none=>False
   | some _=>False
  | .lit (.slice none 0 0)=>match mx with
   | none=>match szOf P e with
    | some _=>bndK lo f (some 0) fun a=>bndK hi f (some 0) fun b=>match a with
     | some a=>match b with
      | some b=>(a = 0 ∧ b = 0) ∧ K (.lit (.slice none 0 0))
      | none=>False
     | none=>False
    | none=>False
   | some _=>False
  | _=>False
 | _=>False
def Bnd (x : Option Operand) (ρ : Operand → Value) (d r : Option Int) : Prop:=(x = none ∧ r = d) ∨ ∃ y k n,x = some y ∧ ρ y = .int k n ∧ r = some n
theorem bndK_ok {x : Option Operand} {f : List AV} {d : Option Int} {K : Option Int → Prop} (h : bndK x f d K) :
  ∃ r,K r ∧ ∀ (w : World) (g : G) (lim : Nat) (ρ : Operand → Value),(∀ y,x = some y → Rep w g lim (aval f y) (ρ y)) → Bnd x ρ d r:=by
 unfold bndK at h
 cases x with
 | none=>exact ⟨d,h,fun w g lim ρ _=>.inl ⟨rfl,rfl⟩⟩
 | some y =>
  simp only at h
  rw [avalK_eq] at h
  split at h
  ·rename_i k n hy
   refine ⟨some n,h,fun w g lim ρ hr=>.inr ⟨y,k,n,rfl,?_,rfl⟩⟩
   have:=hr y rfl
   rw [hy] at this
   exact rep_lit this
  ·exact h.elim
theorem run_bounds {P : Program} {w : World} {ρ : Operand → Value} {lo hi mx : Option Operand} {len cap : Nat} {a b m : Int} {dh : Option Int} (ha : Bnd lo ρ (some 0) (some a)) (hb : Bnd hi ρ dh (some b)) (hdh : dh = some (len : Int) ∧ mx = none ∨ dh = none)
  (hm : (mx = none ∧ m = cap) ∨ ∃ y k,mx = some y ∧ ρ y = .int k m) (h0 : 0 ≤ a) (h1 : a ≤ b) (h2 : b ≤ m) (h3 : m ≤ cap) :
  (Instr.sliceBounds true len cap (lo.map ρ) (hi.map ρ) (mx.map ρ)).run P w = .ok (a.toNat,b.toNat,m.toNat) w:=by
 have mn : ((m.toNat : Nat) : Int) = m:=by omega
 have bn : ((b.toNat : Nat) : Int) = b:=by omega
 have hb0 : 0 ≤ b:=by omega
 have hm0 : 0 ≤ m:=by omega
 have sb : ∀ (x : Value) (k : IntKind) (i : Int) (y : Nat) (code : BoundsCode),x = .int k i → 0 ≤ i → i ≤ y → (Instr.sliceBound x y code).run P w = .ok i.toNat w:=fun x k i y code e h0 h1=>by
  subst e;exact run_sliceBound w k i y code h0 h1
 unfold Instr.sliceBounds
 rcases hm with ⟨rfl,rfl⟩|⟨y,k,rfl,hy⟩
 ·rcases hb with ⟨rfl,hbb⟩|⟨yb,kb,nb,rfl,hyb,hbb⟩
  ·rcases hdh with ⟨rfl,_⟩|rfl
   ·cases hbb
    rcases ha with ⟨rfl,haa⟩|⟨ya,ka,na,rfl,hya,haa⟩
    ·cases haa;simp
    ·cases haa;simp [sb _ ka a len .sliceB hya h0 (by omega)]
   ·cases hbb
  ·cases hbb
   rcases ha with ⟨rfl,haa⟩|⟨ya,ka,na,rfl,hya,haa⟩
   ·cases haa;simp [sb _ kb b cap .sliceAcap hyb hb0 (by omega)]
   ·cases haa;simp [sb _ kb b cap .sliceAcap hyb hb0 (by omega),sb _ ka a b.toNat .sliceB hya h0 (by omega)]
 ·rcases hb with ⟨rfl,hbb⟩|⟨yb,kb,nb,rfl,hyb,hbb⟩
  ·rcases hdh with ⟨_,h⟩|rfl
   ·cases h
   ·cases hbb
  ·cases hbb
   rcases ha with ⟨rfl,haa⟩|⟨ya,ka,na,rfl,hya,haa⟩
   ·cases haa;simp [sb _ k m cap .slice3Acap hy hm0 (by omega),sb _ kb b m.toNat .slice3B hyb hb0 (by omega)]
   ·cases haa;simp [sb _ k m cap .slice3Acap hy hm0 (by omega),sb _ kb b m.toNat .slice3B hyb hb0 (by omega),sb _ ka a b.toNat .slice3C hya h0 (by omega)]
theorem run_slice {P : Program} {w : World} {t e : TypeId} {ad : Option Addr} {len cap z l h m : Nat} {lo hi mx : Option Value} (ht : P.underlying t = some (.slice e)) (hz : szOf P e = some z)
  (hb : (Instr.sliceBounds true len cap lo hi mx).run P w = .ok (l,h,m) w) : (Instr.sliceAt t (.slice ad len cap) lo hi mx).run P w = .ok (.slice (if m = l then ad else ad.map (·.add (l * z))) (h - l) (m - l)) w:=by
 simp [Instr.sliceAt,Instr.slice,run_underlying ht,hb,run_sizeOf hz]
theorem part_ok {w : World} {g : G} {lim : Nat} {tt : Ty} {k off cap b0 : Nat} {a b m up : Int} {c : Option Nat} (h : 0 ≤ a ∧ a ≤ b ∧ b ≤ up) (hk : k < lim ∨ k % 2 = 1) (hm : m ≤ cap) (hum : up ≤ m)
  (hc : ∀ n,c = some n → (m - a).toNat = n) (hal : g.al k → b0 = g.be k ∧ (off + cap) * csz tt ≤ g.sz k) :
  Rep w g lim (.own tt k (a.toNat + off) (b - a).toNat c) (.slice (if m.toNat = a.toNat then some ⟨b0,off * csz tt,none⟩ else (some (⟨b0,off * csz tt,none⟩ : Addr)).map (·.add (a.toNat * csz tt))) (b.toNat - a.toNat) (m.toNat - a.toNat)):=by
 obtain ⟨h0,h1,h2⟩:=h
 have e1 : b.toNat - a.toNat = (b - a).toNat:=by omega
 have e2 : m.toNat - a.toNat = (m - a).toNat:=by omega
 by_cases hma : m = a
 ·have e3 : (b - a).toNat = 0:=by omega
  have e4 : (m - a).toNat = 0:=by omega
  rw [e1,e2,e3,e4]
  exact .ownE tt k _ c _ hk fun n hn=>by have:=hc n hn;omega
 ·rw [e1,e2,if_neg (by omega)]
  simp only [Option.map_some,add_none,← Nat.add_mul]
  rw [Nat.add_comm off]
  refine .own tt k _ _ b0 _ c hk (by omega) hc fun hl=>⟨(hal hl).1,Nat.le_trans (Nat.mul_le_mul_right _ ?_) (hal hl).2⟩
  omega
theorem sliceK2_ok {P : Program} {t : TypeId} {v : AV} {f : List AV} {lo hi mx : Option Operand} {K : AV → Prop} (h : sliceK2 P t v f lo hi mx K) :
  ∃ r,K r ∧ ∀ (w : World) (g : G) (lim : Nat) (x : Value) (ρ : Operand → Value),Rep w g lim v x → (∀ y,lo = some y → Rep w g lim (aval f y) (ρ y)) → (∀ y,hi = some y → Rep w g lim (aval f y) (ρ y)) → (∀ y,mx = some y → Rep w g lim (aval f y) (ρ y)) →
   ∃ y,(Instr.sliceAt t x (lo.map ρ) (hi.map ρ) (mx.map ρ)).run P w = .ok y w ∧ Rep w g lim r y:=by
 unfold sliceK2 at h
 split at h
 case h_2=>exact h.elim
 rename_i e ht
 split at h
 case h_5=>exact h.elim
 ·rename_i tt l
  split at h
  case h_2=>exact h.elim
  cases hz : szOf P e with
  | none=>rw [hz] at h;exact h.elim
  | some z =>
  rw [hz] at h
  simp only at h
  cases hzb : Nat.beq z (csz tt) with
  | false=>rw [hzb] at h;exact h.elim
  | true =>
  rw [hzb] at h
  have hzz:=nbt.1 hzb
  obtain ⟨ra,h,hba⟩:=bndK_ok h
  obtain ⟨rb,h,hbb⟩:=bndK_ok h
  cases ra with
  | none=>exact h.elim
  | some a =>
  cases rb with
  | none=>exact h.elim
  | some b =>
  obtain ⟨⟨h0,h1,h2⟩,hK⟩:=h
  refine ⟨_,hK,fun w g lim x ρ hx ya yb ym=>?_⟩
  have key : ∀ (ad : Option Addr) (cap : Nat),l.length ≤ cap → (Instr.sliceAt t (.slice ad l.length cap) (lo.map ρ) (hi.map ρ) ((none : Option Operand).map ρ)).run P w =
    .ok (.slice (if cap = a.toNat then ad else ad.map (·.add (a.toNat * z))) (b.toNat - a.toNat) (cap - a.toNat)) w:=fun ad cap hc=>by
   have:=run_slice (P:=P) (w:=w) (ad:=ad) ht hz (run_bounds (P:=P) (w:=w) (hba w g lim ρ ya) (hbb w g lim ρ yb) (.inl ⟨rfl,rfl⟩) (m:=(cap : Int)) (.inl ⟨rfl,rfl⟩) h0 h1 (by omega) (by omega))
   simpa using this
  have hlen : ((l.drop a.toNat).take (b - a).toNat).length = b.toNat - a.toNat:=by rw [List.length_take,List.length_drop];omega
  by_cases hne : b.toNat - a.toNat = 0
  ·have hnil : (l.drop a.toNat).take (b - a).toNat = []:=List.eq_nil_of_length_eq_zero (by rw [hlen];exact hne)
   rw [hnil]
   cases hx with
   | vecE _ ad cap=>exact ⟨_,key ad cap (by simp),by rw [hne];exact .vecE _ _ _⟩
   | vec _ _ b0 o cap xs hc hr hw hh=>exact ⟨_,key _ cap hc,by rw [hne];exact .vecE _ _ _⟩
  ·cases hx with
   | vecE _ ad cap=>simp at h2;omega
   | vec _ _ b0 o cap xs hc hr hw hh =>
    refine ⟨_,key _ cap hc,?_⟩
    rw [if_neg (by omega),← hlen]
    simp only [Option.map_some,add_none,hzz]
    have hget : ∀ (i : Nat) c,(flat tt ((l.drop a.toNat).take (b - a).toNat))[i]? = some c → (flat tt l)[a.toNat * csz tt + i]? = some c:=by
     intro i c hc
     rw [flat_take,List.getElem?_take] at hc
     split at hc
     ·rw [flat_drop,List.getElem?_drop] at hc;exact hc
     ·cases hc
    exact .vec tt _ b0 _ _ (fun i=>xs (a.toNat * csz tt + i)) (by rw [hlen];omega) hr (fun i c hi=>by rw [Nat.add_assoc];exact hw _ c (hget i c hi)) (fun i c hi=>hh _ c (hget i c hi))
 ·rename_i tt k off len c
  cases hz : szOf P e with
  | none=>rw [hz] at h;exact h.elim
  | some z =>
  rw [hz] at h
  simp only at h
  cases hzb : Nat.beq z (csz tt) with
  | false=>rw [hzb] at h;exact h.elim
  | true =>
  rw [hzb] at h
  have hzz:=nbt.1 hzb
  subst hzz
  obtain ⟨ra,h,hba⟩:=bndK_ok h
  cases ra with
  | none=>exact h.elim
  | some a =>
  simp only at h
  cases mx with
  | none =>
   simp only at h
   obtain ⟨rb,h,hbb⟩:=bndK_ok h
   cases rb with
   | none=>exact h.elim
   | some b =>
   simp only at h
   have go : ∀ (up : Int) (c' : Option Nat),partK tt k off a b up c' K → (∀ cap : Nat,(∀ n,c = some n → cap = n) → len ≤ cap → up ≤ cap ∧ ∀ n,c' = some n → ((cap : Int) - a).toNat = n) →
     ∃ r,K r ∧ ∀ (w : World) (g : G) (lim : Nat) (x : Value) (ρ : Operand → Value),Rep w g lim (.own tt k off len c) x → (∀ y,lo = some y → Rep w g lim (aval f y) (ρ y)) → (∀ y,hi = some y → Rep w g lim (aval f y) (ρ y)) →
      ∃ y,(Instr.sliceAt t x (lo.map ρ) (hi.map ρ) ((none : Option Operand).map ρ)).run P w = .ok y w ∧ Rep w g lim r y:=by
    intro up c' hp hup
    obtain ⟨⟨h0,h1,h2⟩,hK⟩:=hp
    refine ⟨_,hK,fun w g lim x ρ hx ya yb=>?_⟩
    cases hx with
    | own _ _ _ _ b0 cap _ hk hc hcc hal =>
     obtain ⟨u1,u2⟩:=hup cap hcc hc
     exact ⟨_,run_slice ht hz (run_bounds (P:=P) (w:=w) (hba w g lim ρ ya) (hbb w g lim ρ yb) (.inl ⟨rfl,rfl⟩) (m:=(cap : Int)) (.inl ⟨rfl,rfl⟩) h0 h1 (by omega) (by omega)),part_ok (b0:=b0) (cap:=cap) (m:=(cap : Int)) ⟨h0,h1,h2⟩ hk (by omega) u1 u2 hal⟩
    | ownE _ _ _ _ ad hk hcc =>
     obtain ⟨u1,u2⟩:=hup 0 (fun n hn=>(hcc n hn).symm) (Nat.le_refl _)
     refine ⟨_,run_slice ht hz (run_bounds (P:=P) (w:=w) (hba w g lim ρ ya) (hbb w g lim ρ yb) (.inl ⟨rfl,rfl⟩) (m:=((0 : Nat) : Int)) (.inl ⟨rfl,rfl⟩) h0 h1 (by omega) (by omega)),?_⟩
     have e1 : b.toNat - a.toNat = 0:=by omega
     have e2 : ((0 : Nat) : Int).toNat - a.toNat = 0:=by omega
     have e3 : (b - a).toNat = 0:=by omega
     rw [e1,e2,e3]
     exact .ownE _ _ _ _ _ hk fun n hn=>by have:=u2 n hn;omega
   cases c with
   | none =>
    obtain ⟨r,hK,hr⟩:=go len none h (fun cap _ hc=>⟨by omega,fun n hn=>by cases hn⟩)
    exact ⟨r,hK,fun w g lim x ρ hx ya yb _=>hr w g lim x ρ hx ya yb⟩
   | some c =>
    obtain ⟨r,hK,hr⟩:=go c _ h (fun cap hcc hc=>by
     obtain rfl:=hcc c rfl
     have h9:=h.1.1
     exact ⟨by omega,fun n hn=>by cases hn;omega⟩)
    exact ⟨r,hK,fun w g lim x ρ hx ya yb _=>hr w g lim x ρ hx ya yb⟩
  | some mxo =>
   simp only at h
   obtain ⟨rb,h,hbb⟩:=bndK_ok h
   cases rb with
   | none=>exact h.elim
   | some b =>
   simp only at h
   obtain ⟨rn,h,hbn⟩:=bndK_ok h
   cases rn with
   | none=>exact h.elim
   | some n =>
   simp only at h
   have go : partK tt k off a b n (some (n - a).toNat) K → (∀ cap : Nat,(∀ n,c = some n → cap = n) → len ≤ cap → n ≤ cap) →
     ∃ r,K r ∧ ∀ (w : World) (g : G) (lim : Nat) (x : Value) (ρ : Operand → Value),Rep w g lim (.own tt k off len c) x → (∀ y,lo = some y → Rep w g lim (aval f y) (ρ y)) → (∀ y,hi = some y → Rep w g lim (aval f y) (ρ y)) → (∀ y,some mxo = some y → Rep w g lim (aval f y) (ρ y)) →
      ∃ y,(Instr.sliceAt t x (lo.map ρ) (hi.map ρ) ((some mxo).map ρ)).run P w = .ok y w ∧ Rep w g lim r y:=by
    intro hp hup
    obtain ⟨⟨h0,h1,h2⟩,hK⟩:=hp
    refine ⟨_,hK,fun w g lim x ρ hx ya yb ym=>?_⟩
    have hmm : Bnd (some mxo) ρ none (some n):=hbn w g lim ρ ym
    rcases hmm with ⟨h9,_⟩|⟨y9,k9,n9,e9,e10,e11⟩
    ·cases h9
    cases e9;cases e11
    cases hx with
    | own _ _ _ _ b0 cap _ hk hc hcc hal =>
     have u1:=hup cap hcc hc
     exact ⟨_,run_slice ht hz (run_bounds (P:=P) (w:=w) (hba w g lim ρ ya) (hbb w g lim ρ yb) (.inr rfl) (m:=n) (.inr ⟨_,k9,rfl,e10⟩) h0 h1 (by omega) u1),part_ok (b0:=b0) (cap:=cap) (m:=n) ⟨h0,h1,h2⟩ hk u1 (by omega) (fun q hq=>by cases hq;rfl) hal⟩
    | ownE _ _ _ _ ad hk hcc =>
     have u1:=hup 0 (fun n hn=>(hcc n hn).symm) (Nat.le_refl _)
     refine ⟨_,run_slice ht hz (run_bounds (P:=P) (w:=w) (hba w g lim ρ ya) (hbb w g lim ρ yb) (.inr rfl) (m:=n) (.inr ⟨_,k9,rfl,e10⟩) h0 h1 (by omega) u1),?_⟩
     have e1 : b.toNat - a.toNat = 0:=by omega
     have e2 : n.toNat - a.toNat = 0:=by omega
     have e3 : (b - a).toNat = 0:=by omega
     rw [e1,e2,e3]
     exact .ownE _ _ _ _ _ hk fun q hq=>by cases hq;omega
   cases c with
   | none=>exact go h.2 (fun cap _ hc=>by have:=h.1;omega)
   | some c=>exact go h.2 (fun cap hcc hc=>by obtain rfl:=hcc c rfl;exact h.1)
 ·rename_i te
  split at h
  case h_2=>exact h.elim
  cases hz : szOf P e with
  | none=>rw [hz] at h;exact h.elim
  | some z =>
  rw [hz] at h
  simp only at h
  obtain ⟨ra,h,hba⟩:=bndK_ok h
  obtain ⟨rb,h,hbb⟩:=bndK_ok h
  cases ra with
  | none=>exact h.elim
  | some a =>
  cases rb with
  | none=>exact h.elim
  | some b =>
  obtain ⟨⟨rfl,rfl⟩,hK⟩:=h
  refine ⟨_,hK,fun w g lim x ρ hx ya yb ym=>?_⟩
  cases hx with
  | emp _ ad =>
  have hb:=run_bounds (P:=P) (w:=w) (len:=0) (cap:=0) (hba w g lim ρ ya) (hbb w g lim ρ yb) (.inl ⟨rfl,rfl⟩) (m:=0) (.inl ⟨rfl,rfl⟩) (by omega) (by omega) (by omega) (by omega)
  exact ⟨_,run_slice (ad:=ad) ht hz hb,by simp;exact .emp _ _⟩
 ·split at h
  case h_2=>exact h.elim
  cases hz : szOf P e with
  | none=>rw [hz] at h;exact h.elim
  | some z =>
  rw [hz] at h
  simp only at h
  obtain ⟨ra,h,hba⟩:=bndK_ok h
  obtain ⟨rb,h,hbb⟩:=bndK_ok h
  cases ra with
  | none=>exact h.elim
  | some a =>
  cases rb with
  | none=>exact h.elim
  | some b =>
  obtain ⟨⟨rfl,rfl⟩,hK⟩:=h
  refine ⟨_,hK,fun w g lim x ρ hx ya yb ym=>?_⟩
  rw [rep_lit hx]
  have hb:=run_bounds (P:=P) (w:=w) (len:=0) (cap:=0) (hba w g lim ρ ya) (hbb w g lim ρ yb) (.inl ⟨rfl,rfl⟩) (m:=0) (.inl ⟨rfl,rfl⟩) (by omega) (by omega) (by omega) (by omega)
  exact ⟨.slice none 0 0,by simpa using run_slice (ad:=none) ht hz hb,.lit _⟩
open Go Go.RowKit
theorem LeG.freeze (base : Nat) (g : G) (k : Nat) : LeG base g (g.freeze k):=⟨fun _ h=>.inl h,fun _ h=>h,fun _ _ ha=>⟨ha.2,rfl,rfl⟩⟩
theorem Rep.toVec {w : World} {g : G} {lim : Nat} {m : Nat → Option Blk} (hm : MSim w g lim m) {t : Ty} {k off n : Nat} {c : Option Nat} {l : List (El t)} (hk : m k = some (.row t l)) (hl : off + n ≤ l.length) {x : Value}
  (h : Rep w g lim (.own t k off n c) x) : Rep w (g.freeze k) lim (.vec t ((l.drop off).take n)) x:=by
 have hal : g.al k:=(hm.al k).2 (by simp [hk])
 cases h with
 | ownE _ _ _ _ _ _ _=>rw [List.take_zero];exact .vecE _ _ _
 | own _ _ _ _ b cap _ hkl hc hcc hh =>
  obtain ⟨rfl,h2⟩:=hh hal
  have hlen : ((l.drop off).take n).length = n:=by rw [List.length_take,List.length_drop];omega
  by_cases hn : n = 0
  ·subst hn
   rw [List.take_zero]
   exact .vecE _ _ _
  ·have hbr:=hm.blk k _ hk
   have hz0 : 0 < g.sz k:=Nat.lt_of_lt_of_le (Nat.mul_pos (by omega) (csz_pos t)) hbr.le
   obtain ⟨c0,ty0,b1,b2,b3,b4⟩:=hbr.getRow hz0
   rw [flat_length] at b3
   have hget : ∀ (i : Nat) a,(flat t ((l.drop off).take n))[i]? = some a → (flat t l)[off * csz t + i]? = some a:=by
    intro i a hi
    rw [flat_take,List.getElem?_take] at hi
    split at hi
    ·rw [flat_drop,List.getElem?_drop] at hi;exact hi
    ·cases hi
   have hsz : ∀ (i : Nat) a,(flat t ((l.drop off).take n))[i]? = some a → off * csz t + i < c0.size:=by
    intro i a hi
    have:=(List.getElem?_eq_some_iff.1 (hget i a hi)).1
    rw [flat_length] at this;omega
   have hv:=Rep.vec (w:=w) (g:=g.freeze k) (lim:=lim) t ((l.drop off).take n) (g.be k) (off * csz t) cap (fun i=>(c0[off * csz t + i]?).getD undef) (by rw [hlen];exact hc) (.inr ⟨hz0,rfl⟩)
    (fun i a hi=>by rw [cell_of_row w _ _ c0 ty0 _ b1,Array.getElem?_eq_getElem (hsz i a hi)];simp)
    (fun i a hi=>by
     have hlt:=hsz i a hi
     simp only [Array.getElem?_eq_getElem hlt,Option.getD_some]
     exact (b4 _ a _ (hget i a hi) (Array.getElem?_eq_getElem hlt)).freeze k)
   rwa [hlen] at hv
theorem LeG.frzF (base : Nat) (g : G) (k : Nat) (nl : Bool) : LeG base g (g.frzF k nl):=⟨fun _ h=>h,fun _ h=>h,fun _ _ ha=>⟨ha.2,rfl,rfl⟩⟩
theorem Rep.toFec {w : World} {g : G} {lim : Nat} {m : Nat → Option Blk} (hm : MSim w g lim m) {t : Ty} {k off n : Nat} {c : Option Nat} {l : List (El t)} (hk : m k = some (.row t l)) (hl : off + n ≤ l.length) {x : Value}
  (h : Rep w g lim (.own t k off n c) x) : Rep w (g.frzF k (!leafB t)) lim (.fec false t ((l.drop off).take n)) x:=by
 have hal : g.al k:=(hm.al k).2 (by simp [hk])
 cases h with
 | ownE _ _ _ _ _ _ _=>rw [List.take_zero];exact .fecE _ _ _ _
 | own _ _ _ _ b cap _ hkl hc hcc hh =>
  obtain ⟨rfl,h2⟩:=hh hal
  have hlen : ((l.drop off).take n).length = n:=by rw [List.length_take,List.length_drop];omega
  by_cases hn : n = 0
  ·subst hn
   rw [List.take_zero]
   exact .fecE _ _ _ _
  ·have hbr:=hm.blk k _ hk
   have hz0 : 0 < g.sz k:=Nat.lt_of_lt_of_le (Nat.mul_pos (by omega) (csz_pos t)) hbr.le
   obtain ⟨c0,ty0,b1,b2,b3,b4⟩:=hbr.getRow hz0
   rw [flat_length] at b3
   have hget : ∀ (i : Nat) a,(flat t ((l.drop off).take n))[i]? = some a → (flat t l)[off * csz t + i]? = some a:=by
    intro i a hi
    rw [flat_take,List.getElem?_take] at hi
    split at hi
    ·rw [flat_drop,List.getElem?_drop] at hi;exact hi
    ·cases hi
   have hsz : ∀ (i : Nat) a,(flat t ((l.drop off).take n))[i]? = some a → off * csz t + i < c0.size:=by
    intro i a hi
    have:=(List.getElem?_eq_some_iff.1 (hget i a hi)).1
    rw [flat_length] at this;omega
   have hv:=Rep.fec (w:=w) (g:=g.frzF k (!leafB t)) (lim:=lim) t ((l.drop off).take n) (g.be k) (off * csz t) cap (fun i=>(c0[off * csz t + i]?).getD undef) (by rw [hlen];exact hc) (.inr ⟨hz0,rfl⟩) (by
     have hnf : ¬ g.fr (g.be k):=fun hf=>hm.fj.nal _ (.inl hf) k hal hz0 rfl
     show ((g.fr (g.be k) ∧ g.fn (g.be k)) ∨ (¬ g.fr (g.be k) ∧ (!leafB t) = true)) ↔ leafB t = false
     simp [hnf])
    (fun i a hi=>by rw [cell_of_row w _ _ c0 ty0 _ b1,Array.getElem?_eq_getElem (hsz i a hi)];simp)
    (fun i a hi=>by
     have hlt:=hsz i a hi
     simp only [Array.getElem?_eq_getElem hlt,Option.getD_some]
     exact (b4 _ a _ (hget i a hi) (Array.getElem?_eq_getElem hlt)).frzF k _)
   rwa [hlen] at hv
def vf (ff : Bool) (t : Ty) (l : List (El t)) : AV:=match ff with|true=>.fec false t l|false=>.vec t l
def G.frzB (ff nl : Bool) (g : G) (k : Nat) : G:=match ff with|true=>g.frzF k nl|false=>g.freeze k
theorem LeG.frzB (base : Nat) (ff nl : Bool) (g : G) (k : Nat) : LeG base g (g.frzB ff nl k):=by cases ff<;>first|exact LeG.frzF base g k nl|exact LeG.freeze base g k
theorem Rep.frzB {w : World} {g : G} {lim : Nat} {v : AV} {x : Value} (ff nl : Bool) (h : Rep w g lim v x) (k : Nat) : Rep w (g.frzB ff nl k) lim v x:=by cases ff<;>first|exact h.frzF k nl|exact h.freeze k
theorem MSim.frzB {w : World} {g : G} {lim : Nat} {m : Nat → Option Blk} (ff nl : Bool) (h : MSim w g lim m) {k : Nat} (hk : g.al k) {t : Ty} {l : List (El t)} (hm : m k = some (.row t l)) : MSim w (g.frzB ff nl k) lim (put m k none):=by
 cases ff<;>first|exact h.frzF hk hm nl|exact h.freeze hk
theorem Rep.toVF {w : World} {g : G} {lim : Nat} {m : Nat → Option Blk} (ff : Bool) (hm : MSim w g lim m) {t : Ty} {k off n : Nat} {c : Option Nat} {l : List (El t)} (hk : m k = some (.row t l)) (hl : off + n ≤ l.length) {x : Value}
  (h : Rep w g lim (.own t k off n c) x) : Rep w (g.frzB ff (!leafB t) k) lim (vf ff t ((l.drop off).take n)) x:=by
 cases ff<;>first|exact h.toFec hm hk hl|exact h.toVec hm hk hl
def frzK : List AV → Mem → (List AV → List (Nat × Blk) → Prop) → Prop
 | [],_,K=>K [] []
 | c :: r,m,K=>match c with
  | .own t k off n _=>memK m k fun b=>match b with
   | .row t' l=>match tyB t' t with
    | true=>asK t' t l fun l=>off + n ≤ l.length ∧ frzK r (mdel m k) fun cs rd=>K (.vec t ((l.drop off).take n) :: cs) ((k,.row t l) :: rd)
    | false=>False
   | .box _=>False
   | .mp _ _=>False
   | .pm _ _ _=>False
  | c=>frzK r m fun cs rd=>K (c :: cs) rd
def nones (rd : List (Nat × Blk)) : List (Nat × Option Blk):=match rd with
 | []=>[]
 | (k,_) :: r=>(k,none) :: nones r
theorem frzK_ok : ∀ (cs : List AV) {m : Mem} {K : List AV → List (Nat × Blk) → Prop},frzK cs m K → ∃ cs' rd,K cs' rd ∧ (∀ p ∈ rd,mget m p.1 = some p.2) ∧
  ∀ (m' : Nat → Option Blk) (w : World) (g : G) (lim : Nat),MSim w g lim m' → (∀ p ∈ rd,m' p.1 = some p.2) → ∃ g1,MSim w g1 lim (putsM (nones rd) m') ∧ (∀ base,LeG base g g1) ∧
   (∀ v x,Rep w g lim v x → Rep w g1 lim v x) ∧ ∀ xs : List Value,RepL w g lim cs xs.toArray → RepL w g1 lim cs' xs.toArray:=by
 intro cs
 induction cs with
 | nil=>intro m K h;exact ⟨[],[],h,by simp,fun m' w g lim hm _=>⟨g,hm,fun base=>LeG.refl base g,fun v x h=>h,fun xs h=>h⟩⟩
 | cons c r ih =>
  intro m K h
  have other : (frzK r m fun cs rd=>K (c :: cs) rd) → ∃ cs' rd,K cs' rd ∧ (∀ p ∈ rd,mget m p.1 = some p.2) ∧
    ∀ (m' : Nat → Option Blk) (w : World) (g : G) (lim : Nat),MSim w g lim m' → (∀ p ∈ rd,m' p.1 = some p.2) → ∃ g1,MSim w g1 lim (putsM (nones rd) m') ∧ (∀ base,LeG base g g1) ∧
     (∀ v x,Rep w g lim v x → Rep w g1 lim v x) ∧ ∀ xs : List Value,RepL w g lim (c :: r) xs.toArray → RepL w g1 lim cs' xs.toArray:=by
   intro h
   obtain ⟨cs',rd,hK,hrd,hh⟩:=ih h
   refine ⟨_,_,hK,hrd,fun m' w g lim hm hr=>?_⟩
   obtain ⟨g1,h1,h2,h3,h4⟩:=hh m' w g lim hm hr
   refine ⟨g1,h1,h2,h3,fun xs hx=>?_⟩
   cases xs with
   | nil=>have:=hx.1;simp at this
   | cons x xs =>
    refine RepL.cons0 (h3 _ _ (hx.2 0 c x (by simp) (by simp))) (h4 xs ⟨by have:=hx.1;simpa using this,fun i c' x' hc hx'=>hx.2 (i + 1) c' x' (by simpa using hc) (by simpa using hx')⟩)
  cases c with
  | own t k off n cc =>
   simp only [frzK] at h
   obtain ⟨b,hb,h⟩:=memK_ok h
   cases b with
   | box _=>exact h.elim
   | mp _ _=>exact h.elim
   | pm _ _ _=>exact h.elim
   | row t' l =>
   simp only at h
   cases ht : tyB t' t with
   | false=>rw [ht] at h;exact h.elim
   | true =>
   rw [ht] at h
   have e1:=tyB_ok ht
   subst e1
   obtain ⟨e2,h2⟩:=asK_ok h
   obtain ⟨hlen,h3⟩:=h2
   obtain ⟨cs',rd,hK,hrd,hh⟩:=ih h3
   have hcast : (e2 ▸ l) = l:=rfl
   rw [hcast] at hK hlen
   have hne : ∀ p ∈ rd,p.1 ≠ k:=fun p hp e=>by
    have:=hrd p hp
    rw [mget_mdel,e] at this
    simp at this
   refine ⟨_,_,hK,fun p hp=>?_,fun m' w g lim hm hr=>?_⟩
   ·rcases List.mem_cons.1 hp with rfl|hp
    ·exact hb
    ·have:=hrd p hp
     rw [mget_mdel,if_neg (fun e=>hne p hp e.symm)] at this
     exact this
   ·have hk : m' k = some (.row t' l):=hr (k,.row t' l) (by simp)
    have hal : g.al k:=(hm.al k).2 (by simp [hk])
    obtain ⟨g1,q1,q2,q3,q4⟩:=hh (put m' k none) w (g.freeze k) lim (hm.freeze hal) (fun p hp=>by rw [put_ne _ _ (fun e=>hne p hp e.symm)];exact hr p (by simp [hp]))
    refine ⟨g1,q1,fun base=>(LeG.freeze base g k).trans (q2 base),fun v x hv=>q3 v x (hv.freeze k),fun xs hx=>?_⟩
    cases xs with
    | nil=>have:=hx.1;simp at this
    | cons x xs =>
     refine RepL.cons0 (q3 _ _ (Rep.toVec hm hk hlen (hx.2 0 (.own t' k off n cc) x (by simp) (by simp)))) (q4 xs ⟨by have:=hx.1;simpa using this,fun i c' x' hc hx'=>(hx.2 (i + 1) c' x' (by simpa using hc) (by simpa using hx')).freeze k⟩)
  | _=>exact other h
def chopK (tt : Ty) : Nat → List AV → (List (El tt) → Prop) → Prop
 | 0,cs,K=>match cs with
  | []=>K []
  | _=>False
 | n + 1,cs,K=>takeK cs (csz tt) fun c=>dropK cs (csz tt) fun r=>ofK tt c fun e=>chopK tt n r fun l=>K (e :: l)
theorem LeL.repL {w : World} {g : G} {lim : Nat} {a b : List AV} (h : LeL a b) {xs : Array Value} (hr : RepL w g lim a xs) : RepL w g lim b xs:=
 ⟨by rw [← h.length];exact hr.1,fun i c x hc hx=>by obtain ⟨c',h1,h2⟩:=h.get hc;exact h2 _ _ _ _ (hr.2 i c' x h1 hx)⟩
theorem LeL.app {a b a' b' : List AV} (h : LeL a a') (h' : LeL b b') : LeL (a ++ b) (a' ++ b'):=by
 induction h with
 | nil=>exact h'
 | cons h _ ih=>exact .cons h ih
theorem chopK_ok {tt : Ty} : ∀ (n : Nat) {cs : List AV} {K : List (El tt) → Prop},chopK tt n cs K → ∃ l,K l ∧ l.length = n ∧ LeL cs (flat tt l)
 | 0,cs,K,h=>by
  cases cs with
  | nil=>exact ⟨[],h,rfl,.nil⟩
  | cons _ _=>exact h.elim
 | n + 1,cs,K,h=>by
  simp only [chopK] at h
  obtain ⟨h1,h⟩:=takeK_ok h
  obtain ⟨h2,h⟩:=dropK_ok h
  obtain ⟨e,h,hle⟩:=ofK_ok h
  obtain ⟨l,hK,hl,hle2⟩:=chopK_ok n h
  refine ⟨e :: l,hK,by simp [hl],?_⟩
  have h3 : flat tt (e :: l) = cells tt e ++ flat tt l:=by simp [flat]
  rw [h3,← List.take_append_drop (csz tt) cs]
  exact hle.app hle2
def litK (P : Program) (C : Cfg) (base : Nat) (m : Mem) (f : List AV) (dst : Option Nat) (t : TypeId) (len : Nat) (ps : List (Nat × Operand)) (K : Act1 → Prop) : Prop:=
 match dst with
 | some d=>match Nat.blt (2 * d + 2) 200000 with
  | true=>match P.underlying t with
   | some (.slice e)=>match C.ty e with
    | some tt=>match Nat.ble len 1000 with
     | true=>fillK (fun i=>some (i * csz tt,csz tt)) f ps (flat tt (List.replicate len (dflt tt))) fun cs=>frzK cs m fun cs' rd=>chopK tt len cs' fun l =>
      odK base d fun e=>K ⟨.own tt e 0 len (some len),rd,nones rd ++ [(e,some (.row tt l))],[e]⟩
     | false=>False
    | none=>False
   | _=>False
  | false=>False
 | none=>False
theorem putsM_append (a b : List (Nat × Option Blk)) (m : Nat → Option Blk) : putsM (a ++ b) m = putsM b (putsM a m):=by
 induction a generalizing m with
 | nil=>rfl
 | cons p r ih=>obtain ⟨k,x⟩:=p;simp only [List.cons_append,putsM];exact ih _
theorem fgtM_nones {k : Nat} (rd : List (Nat × Blk)) (m : Nat → Option Blk) : putsM (nones rd) (fgtM k m) = fgtM k (putsM (nones rd) m):=by
 induction rd generalizing m with
 | nil=>rfl
 | cons p r ih=>obtain ⟨j,b⟩:=p;simp only [nones,putsM,put_fgtM];exact ih _
theorem run_buildSlice' {P : Program} (w : World) (t e : TypeId) (len : Nat) (parts : Array (Nat × Value)) (cs : Array Value) (ie : TypeInfo) (z : Value) (hp : 0 < ie.size)
  (hu : P.underlying t = some (.slice e)) (hie : P.info? e = some ie) (hz : ie.zero = some z) (hsmall : ¬ len * ie.size > 2 ^ 24)
  (h : Instr.fill (fun i=>some (i * ie.size,ie.size)) (madeCells z.cells (len * ie.size)) parts.toList = some cs) :
  (Instr.buildSlice t len parts).run P w = .ok (.slice (some ⟨w.heap.size,0,none⟩) len len) (w.alloc (.cells cs e)):=by
 unfold madeCells at h
 by_cases h0 : len * ie.size = 0
 ·rw [h0] at h
  have hl : len = 0:=by
   rcases Nat.mul_eq_zero.1 h0 with h|h
   ·exact h
   ·omega
  subst hl
  have hr : ∀ f : Nat → Value,Array.map f (Array.range 0) = #[]:=fun f=>by simp [Array.range_zero']
  rw [hr] at h
  simp [Instr.buildSlice,run_underlying hu,Go.sizeOf,typeInfo,hie,newRow,hr,h]
 ·simp [Instr.buildSlice,run_underlying hu,Go.sizeOf,typeInfo,zeroValue,hie,hz,hsmall,h0,h,newRow]
theorem litK_ok {P : Program} {C : Cfg} (hC : CfgOk P C) {base : Nat} {m : Mem} {f : List AV} {o : Oper} {t : TypeId} {len : Nat} {ps : Array (Nat × Operand)} (ho : o.op = .buildSlice t len ps) {K : Act1 → Prop}
  (h : litK P C base m f o.dst t len ps.toList K) : ∃ c,K c ∧ (∀ p ∈ c.rd,mget m p.1 = some p.2) ∧ AOk P base o f c:=by
 unfold litK at h
 split at h
 case h_2=>exact h.elim
 rename_i d hd
 cases hb : Nat.blt (2 * d + 2) 200000 with
 | false=>rw [hb] at h;exact h.elim
 | true =>
 rw [hb] at h
 simp only at h
 split at h
 case h_2=>exact h.elim
 rename_i e ht
 cases hce : C.ty e with
 | none=>rw [hce] at h;exact h.elim
 | some tt =>
 rw [hce] at h
 simp only at h
 cases hlb : Nat.ble len 1000 with
 | false=>rw [hlb] at h;exact h.elim
 | true =>
 rw [hlb] at h
 have hlen : len ≤ 1000:=Nat.le_of_ble_eq_true hlb
 obtain ⟨cs,h,hfill⟩:=fillK_ok h
 obtain ⟨cs',rd,h,hrd,hfr⟩:=frzK_ok cs h
 obtain ⟨l,hK,hll,hle⟩:=chopK_ok len h
 rw [odK_eq] at hK
 obtain ⟨i,z,hi,hsz,hby,hz,hzc⟩:=info_of hC hce
 have hp:=csz_pos tt
 have hcb : csz tt ≤ 10:=by cases tt<;>decide
 refine ⟨_,hK,hrd,fun f' m' hop hrd' w g a hs N Q hN=>?_⟩
 obtain ⟨c',hf,hrep⟩:=hfill w g (base + L) a.eval _ (madeCells_ok hzc len w g (base + L)) (fun p hp=>hop p.2 (by rw [ho];simp [Op.operands];exact ⟨p.1,by simpa using hp⟩) _ _ _ _ (rep_aval hs p.2))
 obtain ⟨g1,hm1,hl1,hr1,hr2⟩:=hfr m' w g (base + L) hs.me hrd'
 have hs1 : Sim w g1 (base + L) f' (putsM (nones rd) m') a:=⟨⟨hs.fr.1,fun i c x hc hx=>hr1 _ _ (hs.fr.2 i c x hc hx)⟩,hs.df,hm1⟩
 have hrep2 : RepL w g1 (base + L) (flat tt l) c':=hle.repL (by have:=hr2 c'.toList (by simpa using hrep);simpa using this)
 have hc' : c'.size = len * csz tt:=by have:=hrep2.1;rw [flat_length,hll] at this;exact this.symm
 have hmul : len * csz tt ≤ 1000 * 10:=Nat.mul_le_mul hlen hcb
 refine newRow_ok hb hs1 (tt:=tt) (l:=l) (len:=len) (cap:=len) (Nat.le_refl _) hc' (e:=e) hrep2 ?_ N Q ?_
 ·have hrun:=run_buildSlice' (P:=P) w t e len (ps.map fun p=>(p.1,a.eval p.2)) c' i z (by omega) ht hi hz (by rw [hsz];omega) (by rw [hsz];simpa using hf)
  unfold execOp;rw [ho];simp only [Sem.run_bind];rw [hrun];rfl
 ·intro w' g' a' q1 q2 q3
  refine hN w' g' a' ?_ ⟨q2.os,q2.tape,q2.output,q2.size,fun b hb=>q2.same b ((hl1 base).ro b hb),fun b hb=>q2.others b ((hl1 base).no b hb)⟩ ((hl1 base).trans q3)
  simp only [Act1.fr,Act1.me,fgtsF,fgtsM,putsM_append,putsM,fgtM_nones]
  exact q1
def capK (P : Program) (t : TypeId) (v : AV) (K : AV → Prop) : Prop:=
 match P.underlying t with
 | some (.slice _)=>match v with
  | .own _ _ _ _ (some c)=>K (.lit (.int .i64 c))
  | .lit (.slice none _ c)=>K (.lit (.int .i64 c))
  | .emp _=>K (.lit (.int .i64 0))
  | _=>False
 | _=>False
theorem capK_ok {P : Program} {t ty : TypeId} {a : AV} {K : AV → Prop} (h : capK P t a K) :
  ∃ v,K v ∧ ∀ (w : World) (g : G) (lim : Nat) (xa : Value),Rep w g lim a xa → ∃ r,(Builtin.cap_ #[t] ty #[xa]).run P w = .ok r w ∧ Rep w g lim v r:=by
 unfold capK at h
 split at h
 case h_2=>exact h.elim
 rename_i e hu
 split at h
 ·refine ⟨_,h,fun w g lim xa ha=>?_⟩
  cases ha with
  | own _ _ _ _ b cap _ hk hc hcc hh=>obtain rfl:=hcc _ rfl;exact ⟨_,by simp [Builtin.cap_,run_underlying hu,goInt],.lit _⟩
  | ownE _ _ _ _ ad hk hcc=>obtain rfl:=hcc _ rfl;exact ⟨_,by simp [Builtin.cap_,run_underlying hu,goInt],.lit _⟩
 ·refine ⟨_,h,fun w g lim xa ha=>?_⟩
  rw [rep_lit ha]
  exact ⟨_,by simp [Builtin.cap_,run_underlying hu,goInt],.lit _⟩
 ·refine ⟨_,h,fun w g lim xa ha=>?_⟩
  cases ha with
  | emp _ ad=>exact ⟨_,by simp [Builtin.cap_,run_underlying hu,goInt],.lit _⟩
 ·exact h.elim
theorem exec_copy {P : Program} {o : Oper} {x y : Operand} {ats : Array TypeId} (ho : o.op = .call { callee:=.builtin .copy,args:=#[x,y],argTypes:=ats }) {ρ : Operand → Value} {w w' : World} {r : Value}
  (h : (Builtin.copy_ ats o.type #[ρ x,ρ y]).run P w = .ok r w') : (execOp ρ o).run P w = .ok (.value r) w':=by
 unfold execOp;rw [ho];simp [resolve,invoke,builtin,h]
theorem exec_clear {P : Program} {o : Oper} {x : Operand} {ats : Array TypeId} (ho : o.op = .call { callee:=.builtin .clear,args:=#[x],argTypes:=ats }) {ρ : Operand → Value} {w w' : World} {r : Value}
  (h : (Builtin.clear_ ats o.type #[ρ x]).run P w = .ok r w') : (execOp ρ o).run P w = .ok (.value r) w':=by
 unfold execOp;rw [ho];simp [resolve,invoke,builtin,h]
def upon {tt : Ty} (l : List (El tt)) (p : Nat) (l2 : List (El tt)) : List (El tt):=l.take p ++ (l2 ++ l.drop (p + l2.length))
theorem write_ok {P : Program} {base : Nat} {o : Oper} {f' : List AV} {m' : Nat → Option Blk} {w w' : World} {g : G} {a : Act} (hs : Sim w g (base + L) f' m' a) {k : Nat} {tt : Ty} {l l2 : List (El tt)} (hmk : m' k = some (.row tt l)) (hz0 : 0 < g.sz k) {p : Nat} {news : List Value} {c0 : Array Value} {ty0 : TypeId}
  (b1 : w.heap[g.be k]? = some (.cells c0 ty0 (0,0))) (r2 : w'.heap[g.be k]? = some (.cells (setRange c0 (p * csz tt) news) ty0 (0,0))) (r3 : ∀ b,b ≠ g.be k → w'.heap[b]? = w.heap[b]?) (r4 : w'.heap.size = w.heap.size) (r5 : w'.os = w.os) (r6 : w'.tape = w.tape) (r7 : w'.output = w.output ∧ w'.drawn = w.drawn)
  (hn : RepL w g (base + L) (flat tt l2) news.toArray) (hp : p ≤ l.length) (hfit : (p + l2.length) * csz tt ≤ g.sz k) {v : AV} {r : Value} (hv : Rep w g (base + L) v r) :
  Sim w' g (base + L) (fput f' o.dst v) (put m' k (some (.row tt (upon l p l2)))) (a.put o.dst r) ∧ Tr g w w':=by
 have hal : g.al k:=(hs.me.al k).2 (by simp [hmk])
 obtain ⟨c1,ty1,d1,d2,d3,d4⟩:=(hs.me.blk k _ hmk).getRow hz0
 rw [b1] at d1
 cases d1
 have hro : ∀ b,g.ro b ∨ g.fr b → w'.heap[b]? = w.heap[b]?:=fun b hr=>r3 b (hs.me.ne hal hz0 b hr)
 have hblk:=row_write (l2:=l2) d2 d3 d4 hro r2 hn hp hfit (l.drop (p + l2.length)) (.inr rfl)
 have hs1 : Sim w' g (base + L) f' (put m' k (some (.row tt (upon l p l2)))) a:=⟨hs.fr.same hro,hs.df,hs.me.write hal hz0 _ (by omega) (fun b hb _=>r3 b hb) hblk⟩
 exact ⟨hs1.put (hv.mono (Keeps.ofS hro) (Nat.le_refl _) fun _ _ ha=>⟨ha,rfl,rfl⟩) o.dst,⟨r5,r6,r7.1,⟨by omega,by omega⟩,fun b hb=>hro b (.inl hb),fun b hb=>r3 b (fun e=>(hs.me.nof b hb).2.2 k hal hz0 e.symm)⟩⟩
theorem upon_nil {tt : Ty} (l : List (El tt)) (p : Nat) : upon l p [] = l:=by simp [upon]
theorem put_id {m : Nat → Option Blk} {k : Nat} {b : Blk} (h : m k = some b) : put m k (some b) = m:=by
 funext i;simp only [put];split
 ·rename_i e;rw [← e,h]
 ·rfl
def shortV (b : AV) (len : Nat) : AV:=match b with
 | .own t k off n c=>.own t k off (min n len) c
 | b=>b
def copyK (P : Program) (C : Cfg) (m : Mem) (ats : List TypeId) (a b : AV) (K : Act1 → Prop) : Prop:=
 match ats with
 | [t,tx]=>match P.underlying t with
  | some (.slice e)=>match C.ty e with
   | some tt=>match P.underlying tx with
    | some (.slice _)=>match a with
     | .own t' k off len _=>match tyB t' tt with
      | true=>memK m k fun bl=>match bl with
       | .row t2 l=>asK t2 tt l fun l=>srcK m tt (shortV b len) fun l2 rd2=>off ≤ l.length ∧
        K ⟨.lit (.int .i64 ((min l2.length len : Nat) : Int)),(k,.row tt l) :: rd2,[(k,some (.row tt (upon l off (l2.take (min l2.length len)))))],[]⟩
       | .box _=>False
       | .mp _ _=>False
       | .pm _ _ _=>False
      | false=>False
     | _=>False
    | _=>False
   | none=>False
  | _=>False
 | _=>False
theorem copyK_ok {P : Program} {C : Cfg} (hC : CfgOk P C) {base : Nat} {m : Mem} {f : List AV} {o : Oper} {x y : Operand} {ats : Array TypeId}
  (ho : o.op = .call { callee:=.builtin .copy,args:=#[x,y],argTypes:=ats }) {K : Act1 → Prop} (h : copyK P C m ats.toList (aval f x) (aval f y) K) :
  ∃ c,K c ∧ (∀ p ∈ c.rd,mget m p.1 = some p.2) ∧ AOk P base o f c:=by
 unfold copyK at h
 split at h
 case h_2=>exact h.elim
 rename_i t tx hats
 have hats' : ats = #[t,tx]:=by rw [← Array.toArray_toList (xs:=ats),hats]
 subst hats'
 split at h
 case h_2=>exact h.elim
 rename_i e ht
 cases hce : C.ty e with
 | none=>rw [hce] at h;exact h.elim
 | some tt =>
 rw [hce] at h
 simp only at h
 split at h
 case h_2=>exact h.elim
 rename_i e' htx
 split at h
 case h_2=>exact h.elim
 rename_i t' k off len c hax
 cases htb : tyB t' tt with
 | false=>rw [htb] at h;exact h.elim
 | true =>
 rw [htb] at h
 have e1:=tyB_ok htb
 obtain ⟨b,hb,h1⟩:=memK_ok h
 cases b with
 | box _=>exact h1.elim
 | mp _ _=>exact h1.elim
 | pm _ _ _=>exact h1.elim
 | row t2 l =>
 obtain ⟨e2,h2⟩:=asK_ok h1
 clear h1 h
 subst e2
 subst e1
 obtain ⟨l2,rd2,⟨hoff,hK⟩,hrd2,hy⟩:=srcK_ok h2
 obtain ⟨i0,z0,hi0,hsz0,hby0,hz0,hzc0⟩:=info_of hC hce
 have hxm : x ∈ o.op.operands.toList:=by rw [ho];simp [Op.operands,Call.operands]
 have hym : y ∈ o.op.operands.toList:=by rw [ho];simp [Op.operands,Call.operands]
 refine ⟨_,hK,fun p hp=>?_,fun f' m' hop hrd w g a hs N Q hN=>?_⟩
 ·rcases List.mem_cons.1 hp with rfl|hp
  ·exact hb
  ·exact hrd2 p hp
 have hmk : m' k = some (.row t' l):=hrd (k,.row t' l) (by simp)
 have hal : g.al k:=(hs.me.al k).2 (by simp [hmk])
 have hyi : ∃ (ylen : Nat) (news : List Value),(Builtin.lenOf (a.eval y)).run P w = .ok ylen w ∧ min ylen len = min l2.length len ∧ RepL w g (base + L) (flat t' l2) news.toArray ∧ (∀ u ∈ news,u.oneCell' = true) ∧ news.length = l2.length * csz t' ∧
   ∀ n,n ≤ l2.length → (Builtin.firstCells (csz t') n (a.eval y)).run P w = .ok (news.take (n * csz t')).toArray w:=by
  have hry:=hop y hym _ _ _ _ (rep_aval hs y)
  have hrd3 : ∀ p ∈ rd2,m' p.1 = some p.2:=fun p hp=>hrd p (by simp [hp])
  have same : ∀ {v : Value} {news : List Value} (ad : Option Addr) (n0 cap : Nat),a.eval y = .slice ad n0 cap → v = .slice ad l2.length cap → min n0 len = min l2.length len → Yields2 w g (base + L) t' v l2 news → ∃ (ylen : Nat) (news : List Value),(Builtin.lenOf (a.eval y)).run P w = .ok ylen w ∧ min ylen len = min l2.length len ∧ RepL w g (base + L) (flat t' l2) news.toArray ∧ (∀ u ∈ news,u.oneCell' = true) ∧ news.length = l2.length * csz t' ∧
   ∀ n,n ≤ l2.length → (Builtin.firstCells (csz t') n (a.eval y)).run P w = .ok (news.take (n * csz t')).toArray w:=by
   intro v news ad n0 cap e0 e1 e2 hn
   refine ⟨n0,news,by rw [e0];rfl,e2,hn.rep,hn.one,hn.len,fun n hle=>?_⟩
   have hnl:=hn.len
   have hml : n * csz t' ≤ l2.length * csz t':=Nat.mul_le_mul_right _ hle
   rcases hn.at_ with ⟨ad2,cp,e3,h1⟩|⟨cp,e3,e4,e5⟩
   ·rw [e1] at e3
    cases e3
    rw [e0]
    refine run_firstCells_some w _ _ ad2 _ _ _ (by rw [List.length_take];omega) fun j v hj=>?_
    rw [List.getElem?_take] at hj
    split at hj
    ·exact h1 j v hj
    ·cases hj
   ·rw [e1] at e3
    injection e3 with e6 _ _
    subst e6
    rw [e0,e5];simp [Builtin.firstCells]
  cases hb0 : aval f y with
  | own t4 k4 off4 n4 c4 =>
   rw [hb0] at hry hy
   generalize hE : a.eval y = E at hry
   cases hry with
   | own _ _ _ _ bb cap _ hk hc hcc hh =>
    obtain ⟨news,hn⟩:=hy m' w g (base + L) (.slice (some ⟨bb,off4 * csz t4,none⟩) (min n4 len) cap) hs.me hrd3 (.own _ _ _ _ bb cap _ hk (Nat.le_trans (Nat.min_le_left _ _) hc) hcc hh)
    have hl2 : l2.length = min n4 len:=by
     rcases hn.at_ with ⟨ad2,cp,e3,h1⟩|⟨cp,e3,e4,e5⟩
     ·injection e3 with _ e4 _;exact e4.symm
     ·injection e3 with e4 _ _;cases e4
    rw [← hE]
    exact same (some ⟨bb,off4 * csz t4,none⟩) n4 cap hE (by rw [hl2]) (by rw [hl2];omega) hn
   | ownE _ _ _ _ ad hk hcc =>
    have hz : shortV (.own t4 k4 off4 0 c4) len = .own t4 k4 off4 0 c4:=by simp [shortV]
    rw [hz] at hy
    obtain ⟨news,hn⟩:=hy m' w g (base + L) (.slice ad 0 0) hs.me hrd3 (.ownE _ _ _ _ ad hk hcc)
    have hl2 : l2.length = 0:=by
     rcases hn.at_ with ⟨ad2,cp,e3,h1⟩|⟨cp,e3,e4,e5⟩
     ·injection e3 with _ e4 _;exact e4.symm
     ·rw [e4];rfl
    rw [← hE]
    exact same ad 0 0 hE (by rw [hl2]) (by rw [hl2]) hn
  | _ =>
   rw [hb0] at hry hy
   obtain ⟨news,hn⟩:=hy m' w g (base + L) (a.eval y) hs.me hrd3 hry
   rcases hn.at_ with ⟨ad2,cp,e3,h1⟩|⟨cp,e3,e4,e5⟩
   ·exact same (some ad2) l2.length cp e3 e3 rfl hn
   ·exact same none 0 cp e3 (by rw [e3,e4];rfl) (by rw [e4];rfl) hn
 obtain ⟨ylen,news,hlenof,hmin,hnrep,hnone,hnl,hfirst⟩:=hyi
 have hrx:=hop x hxm _ _ _ _ (rep_aval hs x)
 rw [hax] at hrx
 have noop : ∀ (ad : Option Addr) (cap : Nat),len = 0 → a.eval x = .slice ad 0 cap → o.wp P a w N Q:=by
  intro ad cap h0 hE
  subst h0
  have hl0 : (Builtin.firstCells (csz t') 0 (a.eval y)).run P w = .ok #[] w:=by simpa using hfirst 0 (Nat.zero_le _)
  have hrun : (Builtin.copy_ #[t,tx] o.type #[a.eval x,a.eval y]).run P w = .ok (goInt ((min l2.length 0 : Nat) : Int)) w:=by
   rw [hE]
   cases ad<;>simp [Builtin.copy_,run_underlying ht,hlenof,Go.sizeOf,typeInfo,hi0,hsz0,hl0,storeCells]
  unfold Oper.wp
  rw [exec_copy ho hrun,Oper.upon_value]
  refine hN w g _ ?_ (Tr.refl g w) (LeG.refl base g)
  simp only [Act1.fr,Act1.me,fgtsF,fgtsM,putsM,Nat.min_zero,List.take_zero,upon_nil,put_id hmk]
  exact hs.put (.lit _) o.dst
 generalize hE : a.eval x = E at hrx
 cases hrx with
 | ownE _ _ _ _ ad hk hcc=>exact noop ad 0 rfl hE
 | own _ _ _ _ b cap _ hk hc hcc hh =>
 obtain ⟨rfl,hsz⟩:=hh hal
 by_cases hl0 : len = 0
 ·exact noop (some ⟨g.be k,off * csz t',none⟩) cap hl0 (by rw [hE,hl0])
 have hzp : 0 < g.sz k:=Nat.lt_of_lt_of_le (Nat.mul_pos (by omega) (csz_pos t')) hsz
 obtain ⟨c0,ty0,b1,b2,b3,b4⟩:=(hs.me.blk k _ hmk).getRow hzp
 have hml : (min l2.length len) * csz t' ≤ l2.length * csz t':=Nat.mul_le_mul_right _ (Nat.min_le_left _ _)
 have hlen2 : (l2.take (min l2.length len)).length = min l2.length len:=by rw [List.length_take];omega
 have hnews2 : RepL w g (base + L) (flat t' (l2.take (min l2.length len))) (news.take (min l2.length len * csz t')).toArray:=by
  rw [flat_take]
  refine ⟨by have:=hnrep.1;simp at this ⊢;omega,fun i c x hc hx=>?_⟩
  rw [List.getElem?_take] at hc
  split at hc
  ·rename_i hlt
   refine hnrep.2 i c x hc ?_
   simp only [List.getElem?_toArray] at hx ⊢
   rw [List.getElem?_take,if_pos hlt] at hx;exact hx
  ·cases hc
 have hnl2 : (news.take (min l2.length len * csz t')).length = min l2.length len * csz t':=by rw [List.length_take];omega
 have hone : ∀ u ∈ news.take (min l2.length len * csz t'),u.oneCell' = true:=fun u hu=>hnone u (List.mem_of_mem_take hu)
 have hcells:=hfirst (min l2.length len) (Nat.min_le_left _ _)
 have hmn : (off + min l2.length len) * csz t' ≤ g.sz k:=Nat.le_trans (Nat.mul_le_mul_right _ (by omega)) hsz
 obtain ⟨w',r1,r2,r3,r4,r5,r6,r7⟩:=run_storeCells (P:=P) (g.be k) (off * csz t') ty0 _ hone 0 w c0 b1 (by rw [hnl2,b2];rw [Nat.add_mul] at hmn;omega)
 rw [Nat.add_zero] at r2
 unfold Oper.wp
 have hrun : (Builtin.copy_ #[t,tx] o.type #[a.eval x,a.eval y]).run P w = .ok (goInt ((min l2.length len : Nat) : Int)) w':=by
  rw [hE]
  have hmm : Nat.min ylen len = min l2.length len:=hmin
  simp [Builtin.copy_,run_underlying ht,hlenof,Go.sizeOf,typeInfo,hi0,hsz0,hmm,hcells,r1]
 rw [exec_copy ho hrun,Oper.upon_value]
 obtain ⟨s1,s2⟩:=write_ok (P:=P) (o:=o) (l2:=l2.take (min l2.length len)) hs hmk hzp b1 r2 r3 r4 r5 r6 r7 hnews2 hoff (by rw [hlen2];exact hmn) (v:=.lit (.int .i64 ((min l2.length len : Nat) : Int))) (r:=goInt ((min l2.length len : Nat) : Int)) (.lit _)
 exact hN w' g _ s1 s2 (LeG.refl base g)
def clearK (P : Program) (C : Cfg) (m : Mem) (ats : List TypeId) (a : AV) (K : Act1 → Prop) : Prop:=
 match ats with
 | [t]=>match P.underlying t with
  | some (.slice e)=>match C.ty e with
   | some tt=>match a with
    | .own t' k off len _=>match tyB t' tt with
     | true=>memK m k fun bl=>match bl with
      | .row t2 l=>asK t2 tt l fun l=>off ≤ l.length ∧ K ⟨und,[(k,.row tt l)],[(k,some (.row tt (upon l off (List.replicate len (dflt tt)))))],[]⟩
      | .box _=>False
      | .mp _ _=>False
      | .pm _ _ _=>False
     | false=>False
    | .vec _ _=>False
    | _=>False
   | none=>False
  | _=>False
 | _=>False
theorem clearK_ok {P : Program} {C : Cfg} (hC : CfgOk P C) {base : Nat} {m : Mem} {f : List AV} {o : Oper} {x : Operand} {ats : Array TypeId}
  (ho : o.op = .call { callee:=.builtin .clear,args:=#[x],argTypes:=ats }) {K : Act1 → Prop} (h : clearK P C m ats.toList (aval f x) K) :
  ∃ c,K c ∧ (∀ p ∈ c.rd,mget m p.1 = some p.2) ∧ AOk P base o f c:=by
 unfold clearK at h
 split at h
 case h_2=>exact h.elim
 rename_i t hats
 have hats' : ats = #[t]:=by rw [← Array.toArray_toList (xs:=ats),hats]
 subst hats'
 split at h
 case h_2=>exact h.elim
 rename_i e ht
 cases hce : C.ty e with
 | none=>rw [hce] at h;exact h.elim
 | some tt =>
 rw [hce] at h
 simp only at h
 split at h
 case h_2=>exact h.elim
 case h_3=>exact h.elim
 rename_i t' k off len c hax
 cases htb : tyB t' tt with
 | false=>rw [htb] at h;exact h.elim
 | true =>
 rw [htb] at h
 have e1:=tyB_ok htb
 obtain ⟨b,hb,h1⟩:=memK_ok h
 cases b with
 | box _=>exact h1.elim
 | mp _ _=>exact h1.elim
 | pm _ _ _=>exact h1.elim
 | row t2 l =>
 obtain ⟨e2,h2⟩:=asK_ok h1
 clear h1 h
 subst e2
 subst e1
 obtain ⟨hoff,hK⟩:=h2
 obtain ⟨i0,z0,hi0,hsz0,hby0,hz0,hzc0⟩:=info_of hC hce
 have hxm : x ∈ o.op.operands.toList:=by rw [ho];simp [Op.operands,Call.operands]
 refine ⟨_,hK,by simp [hb],fun f' m' hop hrd w g a hs N Q hN=>?_⟩
 have hmk : m' k = some (.row t' l):=hrd (k,.row t' l) (by simp)
 have hal : g.al k:=(hs.me.al k).2 (by simp [hmk])
 have hrx:=hop x hxm _ _ _ _ (rep_aval hs x)
 rw [hax] at hrx
 have noop : ∀ (ad : Option Addr) (cap : Nat),len = 0 → a.eval x = .slice ad 0 cap → o.wp P a w N Q:=by
  intro ad cap h0 hE
  subst h0
  have hrun : (Builtin.clear_ #[t] o.type #[a.eval x]).run P w = .ok (.tuple #[]) w:=by
   rw [hE]
   cases ad<;>simp [Builtin.clear_,run_underlying ht]
  unfold Oper.wp
  rw [exec_clear ho hrun,Oper.upon_value]
  refine hN w g _ ?_ (Tr.refl g w) (LeG.refl base g)
  simp only [Act1.fr,Act1.me,fgtsF,fgtsM,putsM,List.replicate_zero,upon_nil,put_id hmk]
  exact hs.put (.lit _) o.dst
 generalize hE : a.eval x = E at hrx
 cases hrx with
 | ownE _ _ _ _ ad hk hcc=>exact noop ad 0 rfl hE
 | own _ _ _ _ b cap _ hk hc hcc hh =>
 obtain ⟨rfl,hsz⟩:=hh hal
 by_cases hl0 : len = 0
 ·exact noop (some ⟨g.be k,off * csz t',none⟩) cap hl0 (by rw [hE,hl0])
 have hzp : 0 < g.sz k:=Nat.lt_of_lt_of_le (Nat.mul_pos (by omega) (csz_pos t')) hsz
 obtain ⟨c0,ty0,b1,b2,b3,b4⟩:=(hs.me.blk k _ hmk).getRow hzp
 have hzs : z0.cells.size = csz t':=by have:=congrArg List.length hzc0;rw [zc_length] at this;simpa using this
 have hzm : Builtin.zeroCells z0.cells len = madeCells z0.cells (len * csz t'):=by unfold Builtin.zeroCells madeCells;rw [hzs]
 have hrep:=madeCells_ok hzc0 len w g (base + L)
 have hnews : RepL w g (base + L) (flat t' (List.replicate len (dflt t'))) (madeCells z0.cells (len * csz t')).toList.toArray:=by simpa using hrep
 have hone : ∀ u ∈ (madeCells z0.cells (len * csz t')).toList,u.oneCell' = true:=fun u hu=>by
  obtain ⟨i,hi⟩:=List.getElem?_of_mem hu
  have hlt : i < (madeCells z0.cells (len * csz t')).size:=by have:=(List.getElem?_eq_some_iff.1 hi).1;simpa using this
  have hlt2 : i < (flat t' (List.replicate len (dflt t'))).length:=by rw [hrep.1];exact hlt
  exact one_ok (hrep.2 i _ u (List.getElem?_eq_getElem hlt2) (by simpa using hi)) (one_flat (List.getElem?_eq_getElem hlt2))
 have hmn : (off + len) * csz t' ≤ g.sz k:=Nat.le_trans (Nat.mul_le_mul_right _ (by omega)) hsz
 obtain ⟨w',r1,r2,r3,r4,r5,r6,r7⟩:=run_storeCells (P:=P) (g.be k) (off * csz t') ty0 _ hone 0 w c0 b1 (by rw [Array.length_toList,size_madeCells,b2];rw [Nat.add_mul] at hmn;omega)
 rw [Nat.add_zero] at r2
 have hwr:=write_ok (P:=P) (o:=o) (l2:=List.replicate len (dflt t')) hs hmk hzp b1 r2 r3 r4 r5 r6 r7 hnews hoff (by rw [List.length_replicate];exact hmn) (v:=und) (r:=.tuple #[]) (.lit _)
 unfold Oper.wp
 have hrun : ∃ w2,(Builtin.clear_ #[t] o.type #[a.eval x]).run P w = .ok (.tuple #[]) w2 ∧ w2 = w':=by
  rw [hE]
  cases len with
  | zero =>
   refine ⟨w,by simp [Builtin.clear_,run_underlying ht],?_⟩
   have : (madeCells z0.cells (0 * csz t')).toList = []:=List.eq_nil_of_length_eq_zero (by rw [Array.length_toList,size_madeCells];simp)
   rw [this] at r1
   simp [storeCells] at r1
   exact r1
  | succ n =>
   refine ⟨w',?_,rfl⟩
   rw [← hzm] at r1
   simp [Builtin.clear_,run_underlying ht,zeroValue,typeInfo,hi0,hz0,r1]
 obtain ⟨w2,hrun,rfl⟩:=hrun
 rw [exec_clear ho hrun,Oper.upon_value]
 exact hN _ g _ hwr.1 hwr.2 (LeG.refl base g)
open Go Go.RowKit
def loosB : Ty → Nat → Bool
 | .chunk,2=>true
 | _,_=>false
def ffB : Ty → Nat → Bool
 | .boxM,1=>true
 | .boxF,1=>true
 | _,_=>false
def storeFK (P : Program) (m : Mem) (t : TypeId) (a v : AV) (K : Act1 → Prop) : Prop:=
 match v with
 | .own t2 k2 off2 n2 _=>match a with
  | .rptr tt k i off=>match Nat.beq k2 k with
   | true=>False
   | false=>match loosB tt off with
    | true=>memK m k fun b=>match b with
     | .row t' l=>match Nat.beq (csz tt) (csz t') with
      | true=>match szOf P t with
       | some 1=>(i < l.length ∧ off < csz tt) ∧ K ⟨und,[(k,.row t' l)],[(k,some (.box ((flat t' l).set (i * csz t' + off) v)))],[]⟩
       | _=>False
      | false=>False
     | _=>False
    | false=>memK m k2 fun b2=>match b2 with
    | .row t3 l3=>match tyB t3 t2 with
     | true=>asK t3 t2 l3 fun l3=>off2 + n2 ≤ l3.length ∧ match szOf P t with
      | some 1=>memK m k fun b=>match b with
       | .row t' l=>match Nat.beq (csz tt) (csz t') with
        | true=>i < l.length ∧ overK (cells t' (elt t' l i)) off [vf (ffB t' off) t2 ((l3.drop off2).take n2)] fun cs'=>ofK t' cs' fun e =>
         K ⟨und,[(k,.row t' l),(k2,.row t2 l3)],[(k2,none),(k,some (.row t' (l.set i e)))],[]⟩
        | false=>False
       | .box _=>False
       | .mp _ _=>False
       | .pm _ _ _=>False
      | _=>False
     | false=>False
    | .box _=>False
    | .mp _ _=>False
    | .pm _ _ _=>False
  | a=>storeK P m t a v K
 | v=>storeK P m t a v K
theorem storeFK_ok {P : Program} {base : Nat} {m : Mem} {f : List AV} {o : Oper} {t : TypeId} {x y : Operand} (ho : o.op = .store t x y) {K : Act1 → Prop}
  (h : storeFK P m t (aval f x) (aval f y) K) : ∃ c,K c ∧ (∀ p ∈ c.rd,mget m p.1 = some p.2) ∧ AOk P base o f c:=by
 have hx : x ∈ o.op.operands.toList:=by rw [ho];simp [Op.operands]
 have hy : y ∈ o.op.operands.toList:=by rw [ho];simp [Op.operands]
 unfold storeFK at h
 cases hv : aval f y<;>rw [hv] at h<;>simp only at h
 case own t2 k2 off2 n2 c2 =>
  cases ha : aval f x<;>rw [ha] at h<;>simp only at h
  case rptr tt k i off =>
   cases hkk : Nat.beq k2 k with
   | true=>rw [hkk] at h;exact h.elim
   | false =>
   rw [hkk] at h
   have hne : ¬ k = k2:=fun e=>by subst e;rw [nbt.2 rfl] at hkk;cases hkk
   simp only at h
   cases hlo : loosB tt off with
   | true =>
    rw [hlo] at h
    obtain ⟨b,hb,h⟩:=memK_ok h
    cases b with
    | box _=>exact h.elim
    | mp _ _=>exact h.elim
    | pm _ _ _=>exact h.elim
    | row t' l =>
    simp only at h
    cases hcs : Nat.beq (csz tt) (csz t') with
    | false=>rw [hcs] at h;exact h.elim
    | true =>
    rw [hcs] at h
    simp only at h
    split at h
    case h_2=>exact h.elim
    rename_i hsz
    obtain ⟨⟨hi,hoff⟩,hK⟩:=h
    rw [nbt.1 hcs] at hoff
    obtain ⟨_,rfl,hvs⟩:=cellsK_ok (v:=.own t2 k2 off2 n2 c2) (K:=fun cs=>cs = [.own t2 k2 off2 n2 c2]) rfl
    refine ⟨_,hK,by simp [hb],fun f' m' hop hrd w g a hs Kc Q hN=>?_⟩
    have hm : m' k = some (.row t' l):=hrd (k,.row t' l) (by simp)
    have hal : g.al k:=(hs.me.al k).2 (by simp [hm])
    have hry:=hop y hy _ _ _ _ (rep_aval hs y)
    rw [hv] at hry
    obtain ⟨v1,v2,v3⟩:=hvs hry
    have hr0:=hop x hx _ _ _ _ (rep_aval hs x)
    rw [ha] at hr0
    have he : a.eval x = .pointer (some ⟨g.be k,i * csz t' + off,none⟩):=by rw [← nbt.1 hcs];exact rep_rptr hr0 hal
    have hbr:=hs.me.blk k _ hm
    have hz0 : 0 < g.sz k:=Nat.lt_of_lt_of_le (Nat.mul_pos (Nat.lt_of_le_of_lt (Nat.zero_le _) hi) (csz_pos t')) hbr.le
    obtain ⟨c,ty,b1,b2,b3,b4⟩:=hbr.getRow hz0
    have hmul : (i + 1) * csz t' ≤ l.length * csz t':=Nat.mul_le_mul_right _ hi
    rw [Nat.succ_mul] at hmul
    have hfl:=flat_length t' l
    have hone : (a.eval y).cells.size = 1:=by simpa using v1.symm
    have hcel : ∀ z,(a.eval y).cells[0]? = some z → z = a.eval y:=by
     intro z hz
     have h1 : ∀ x : Value,Rep w g (base + L) (.own t2 k2 off2 n2 c2) x → x.cells = #[x]:=fun x hx=>by cases hx<;>rfl
     rw [h1 _ hry] at hz
     simpa using hz.symm
    refine store_ok ho hs hal hz0 he (by rw [hsz,hone]) v3 b1 (by rw [hone];omega) (.box ((flat t' l).set (i * csz t' + off) (.own t2 k2 off2 n2 c2))) (fun w' hro hw'=>?_) Kc Q hN
    refine ⟨hz0,_,ty,hw',by rw [setRange_size];exact b2,by rw [List.length_set];exact b3,fun j a' x' hj hx'=>?_⟩
    rw [setRange_get _ _ _ _ (by simp;omega)] at hx'
    have hsame : ∀ {v x},Rep w g (base + L) v x → Rep w' g (base + L) v x:=fun h=>h.mono (Keeps.ofS hro) (Nat.le_refl _) fun _ _ ha=>⟨ha,rfl,rfl⟩
    rw [List.getElem?_set] at hj
    by_cases hjj : i * csz t' + off = j
    ·rw [if_pos hjj,if_pos (by omega)] at hj
     rw [if_pos (by simp;omega)] at hx'
     rw [show j - (i * csz t' + off) = 0 by omega] at hx'
     obtain rfl:=Option.some.inj hj
     rw [hcel x' (by simpa using hx')]
     exact hsame hry
    ·rw [if_neg hjj] at hj
     rw [if_neg (by simp;omega)] at hx'
     exact hsame (b4 j a' x' hj hx')
   | false =>
   rw [hlo] at h
   simp only at h
   obtain ⟨b2,hb2,h⟩:=memK_ok h
   cases b2 with
   | box _=>exact h.elim
   | mp _ _=>exact h.elim
   | pm _ _ _=>exact h.elim
   | row t3 l3 =>
   simp only at h
   cases ht : tyB t3 t2 with
   | false=>rw [ht] at h;exact h.elim
   | true =>
   rw [ht] at h
   have e1:=tyB_ok ht
   subst e1
   obtain ⟨e2,h2⟩:=asK_ok h
   have hcast : (e2 ▸ l3) = l3:=rfl
   rw [hcast] at h2
   obtain ⟨hlen2,h⟩:=h2
   split at h
   case h_2=>exact h.elim
   rename_i hsz
   obtain ⟨b,hb,h⟩:=memK_ok h
   cases b with
   | box _=>exact h.elim
   | mp _ _=>exact h.elim
   | pm _ _ _=>exact h.elim
   | row t' l =>
   simp only at h
   cases hcs : Nat.beq (csz tt) (csz t') with
   | false=>rw [hcs] at h;exact h.elim
   | true =>
   rw [hcs] at h
   obtain ⟨hi,h⟩:=h
   obtain ⟨cs',h,q1,q2,q3⟩:=overK_ok h
   obtain ⟨e,hK,hle⟩:=ofK_ok h
   obtain ⟨_,rfl,hvs⟩:=cellsK_ok (v:=.own t3 k2 off2 n2 c2) (K:=fun cs=>cs = [.own t3 k2 off2 n2 c2]) rfl
   refine ⟨_,hK,by simp [hb,hb2],fun f' m' hop hrd w g0 a hs0 Kc Q hN=>?_⟩
   have hm0 : m' k = some (.row t' l):=hrd (k,.row t' l) (by simp)
   have hm2 : m' k2 = some (.row t3 l3):=hrd (k2,.row t3 l3) (by simp)
   have hal2 : g0.al k2:=(hs0.me.al k2).2 (by simp [hm2])
   have hry0:=hop y hy _ _ _ _ (rep_aval hs0 y)
   rw [hv] at hry0
   obtain ⟨v1,v2,v3⟩:=hvs hry0
   have hry:=Rep.toVF (ffB t' off) hs0.me hm2 hlen2 hry0
   have hs : Sim w (g0.frzB (ffB t' off) (!leafB t3) k2) (base + L) f' (put m' k2 none) a:=⟨⟨hs0.fr.1,fun i c x hc hx=>(hs0.fr.2 i c x hc hx).frzB _ _ k2⟩,hs0.df,hs0.me.frzB _ _ hal2 hm2⟩
   have hr0:=hop x hx _ _ _ _ (rep_aval hs0 x)
   rw [ha] at hr0
   have hm : put m' k2 none k = some (.row t' l):=by rw [put_ne _ _ (fun e=>hne e.symm)];exact hm0
   have hal : (g0.frzB (ffB t' off) (!leafB t3) k2).al k:=(hs.me.al k).2 (by simp [hm])
   have he : a.eval x = .pointer (some ⟨(g0.frzB (ffB t' off) (!leafB t3) k2).be k,i * csz t' + off,none⟩):=by rw [← nbt.1 hcs];exact rep_rptr (hr0.frzB _ _ k2) hal
   have hbr:=hs.me.blk k _ hm
   have hz0 : 0 < (g0.frzB (ffB t' off) (!leafB t3) k2).sz k:=Nat.lt_of_lt_of_le (Nat.mul_pos (Nat.lt_of_le_of_lt (Nat.zero_le _) hi) (csz_pos t')) hbr.le
   obtain ⟨c,ty,b1,b2,b3,b4⟩:=hbr.getRow hz0
   have hlen:=q2 (by simp)
   rw [cells_length] at hlen
   rw [flat_length] at b3
   have hmul : (i + 1) * csz t' ≤ l.length * csz t':=Nat.mul_le_mul_right _ hi
   rw [Nat.succ_mul] at hmul
   have hone : (a.eval y).cells.size = 1:=by simpa using v1.symm
   have hcel : ∀ z,(a.eval y).cells[0]? = some z → z = a.eval y:=by
    intro z hz
    have h1 : ∀ x : Value,Rep w g0 (base + L) (.own t3 k2 off2 n2 c2) x → x.cells = #[x]:=fun x hx=>by cases hx<;>rfl
    rw [h1 _ hry0] at hz
    simpa using hz.symm
   refine store_ok ho hs hal hz0 he (by rw [hsz,hone]) v3 b1 (by simp only [List.length_cons,List.length_nil] at hlen;omega) (.row t' (l.set i e)) (fun w' hro hw'=>?_) Kc Q (fun w' g' a' s1 s2 s3=>hN w' g' a' ?_ ?_ ?_)
   ·refine BlkRep.mkRow ⟨_,ty,hw',by rw [setRange_size];exact b2,by rw [flat_length];simp;exact b3,fun j a' x' hj hx'=>?_⟩
    rw [setRange_get _ _ _ _ (by simp;simp only [List.length_cons,List.length_nil] at hlen;omega)] at hx'
    rw [flat_set hi] at hj
    have hsame : ∀ {v x},Rep w (g0.frzB (ffB t' off) (!leafB t3) k2) (base + L) v x → Rep w' (g0.frzB (ffB t' off) (!leafB t3) k2) (base + L) v x:=fun h=>h.mono (Keeps.ofS hro) (Nat.le_refl _) fun _ _ ha=>⟨ha,rfl,rfl⟩
    simp only [List.length_cons,List.length_nil] at hlen
    by_cases hin : i * csz t' ≤ j ∧ j < i * csz t' + csz t'
    ·rw [if_pos hin] at hj
     obtain ⟨c0,hc0,hcle⟩:=hle.get hj
     rw [q3] at hc0
     apply hcle
     by_cases hin2 : off ≤ j - i * csz t' ∧ j - i * csz t' < off + 1
     ·rw [if_pos (by simpa using hin2)] at hc0
      rw [if_pos (by simp;omega)] at hx'
      have e0 : j - i * csz t' - off = 0:=by omega
      have e3 : j - (i * csz t' + off) = 0:=by omega
      rw [e0] at hc0
      simp at hc0
      subst hc0
      rw [e3] at hx'
      have:=hcel x' (by simpa using hx')
      rw [this]
      exact hsame hry
     ·rw [if_neg (by simpa using hin2)] at hc0
      rw [if_neg (by simp;omega)] at hx'
      refine hsame (b4 j c0 x' ?_ hx')
      have:=flat_elt hi hc0
      rwa [show i * csz t' + (j - i * csz t') = j by omega] at this
    ·rw [if_neg hin] at hj
     rw [if_neg (by simp;omega)] at hx'
     exact hsame (b4 j a' x' hj hx')
   ·exact s1
   ·exact ⟨s2.os,s2.tape,s2.output,s2.size,fun b hb=>s2.same b ((LeG.frzB base (ffB t' off) (!leafB t3) g0 k2).ro b hb),fun b hb=>s2.others b ((LeG.frzB base (ffB t' off) (!leafB t3) g0 k2).no b hb)⟩
   ·exact (LeG.frzB base (ffB t' off) (!leafB t3) g0 k2).trans s3
  all_goals exact storeK_ok ho (by rw [ha,hv];exact h)
 all_goals exact storeK_ok ho (by rw [hv];exact h)
open Go Go.RowKit
theorem run_append_grow_zeros {P : Program} (w : World) (t tx ty e : TypeId) (i : TypeInfo) (z : Value) (k' k : IntKind) (ht : P.underlying t = some (.slice e)) (htx : P.underlying tx = some (.int k')) (hi : P.info? e = some i) (hz : i.zero = some z) (hpos : 0 < i.size) (base : Option Addr) (sLen sCap : Nat) (olds : List Value)
  (hold : (Builtin.firstCells i.size sLen (.slice base sLen sCap)).run P w.drew = .ok olds.toArray w.drew) (n : Nat) (hn0 : 0 < n)
  (hg : sCap < sLen + n) (h63 : ((sLen + n : Nat) : Int) ≤ 9223372036854775807) (hby : n * i.bytes ≤ 281474976710656) (hfit : Builtin.nextslicecap (sLen + n) sCap * i.bytes ≤ 281474976710656) :
  (Builtin.append_ #[t,tx] ty #[.slice base sLen sCap,.int k n]).run P w =
   .ok (.slice (some ⟨w.heap.size,0,none⟩) (sLen + n) (grownCap w (sLen + n) sCap e))
    (w.drew.alloc (.cells ((olds ++ (Builtin.zeroCells z.cells n).toList).toArray ++ Builtin.zeroCells z.cells (grownCap w (sLen + n) sCap e - (sLen + n))) e)):=by
 have hn : ¬ (sLen + n ≤ sCap):=by omega
 have h63' : ¬ (9223372036854775807 < ((sLen : Int) + (n : Int))):=by omega
 have h48' : ¬ (281474976710656 < Builtin.nextslicecap (sLen + n) sCap * i.bytes):=by omega
 have hw : IntKind.i64.wrap (n : Int) = n:=IntWalk.i64_in _ (by omega)
 have hneg : ¬ ((n : Int) < 0):=by omega
 have hby' : ¬ ((281474976710656 : Int) < (n : Int) * (i.bytes : Int)):=by
  have : ((n * i.bytes : Nat) : Int) ≤ 281474976710656:=by omega
  rw [Int.natCast_mul] at this;omega
 have hns : ¬ (n * i.size = 0):=by
  intro h
  rcases Nat.mul_eq_zero.1 h with h|h<;>omega
 simp [Builtin.append_,run_underlying ht,run_underlying htx,Go.sizeOf,typeInfo,zeroValue,hi,hz,hn,h63',h48',Question.forced,hold,newRow,grownCap,hw,hneg,hby',hns,asInt,asIntOf,Nat.ne_of_gt hn0,Nat.ne_of_gt hpos]
 congr 2
 apply Array.ext'
 simp
theorem grow_ok2 {P : Program} {C : Cfg} (hC : CfgOk P C) {e : TypeId} {tt : Ty} (he : C.ty e = some tt) {t tx ty : TypeId} {w : World} {g : G} {lim : Nat} {f : List AV} {m : Nat → Option Blk} {a : Act}
  (hs : Sim w g lim f m a) {k : Nat} (hk : k < lim ∨ k % 2 = 1) {l1 l2 : List (El tt)} {news olds : List Value} {x y z : Value} (hz : z.cells.size = csz tt) (hnews : RepL w g lim (flat tt l2) news.toArray) (holds : RepL w g lim (flat tt l1) olds.toArray)
  {cap' : Nat} (hcap : l1.length + l2.length ≤ cap')
  (hrun : (Builtin.append_ #[t,tx] ty #[y,x]).run P w = .ok (.slice (some ⟨w.heap.size,0,none⟩) (l1.length + l2.length) cap') (w.drew.alloc (.cells ((olds ++ news).toArray ++ Builtin.zeroCells z.cells (cap' - (l1.length + l2.length))) e))) (d : Option Nat) :
  ∃ w' r g',(Builtin.append_ #[t,tx] ty #[y,x]).run P w = .ok r w' ∧
   Sim w' g' lim (fput (fgtL k f) d (.own tt k 0 (l1.length + l2.length) none)) (put (fgtM k m) k (some (.row tt (l1 ++ l2)))) (a.put d r) ∧ Tr g w w' ∧ (∀ base,base ≤ k → LeG base g g'):=by
 generalize hcells : (olds ++ news).toArray ++ Builtin.zeroCells z.cells (cap' - (l1.length + l2.length)) = cs at hrun
 have hl1 : olds.length = l1.length * csz tt:=by have:=holds.1;rw [flat_length] at this;simpa using this.symm
 have hl2 : news.length = l2.length * csz tt:=by have:=hnews.1;rw [flat_length] at this;simpa using this.symm
 have hcs : cs.size = cap' * csz tt:=by
  rw [← hcells]
  simp only [Array.size_append,List.size_toArray,List.length_append,size_zeroCells,hz,hl1,hl2]
  rw [← Nat.add_mul,← Nat.add_mul];congr 1;omega
 have hs2:=hs.drew
 have htr:=Tr.alloc g w.drew (.cells cs e) hs2.me.rolt (fun b hb=>(hs2.me.nof b hb).1)
 have hrep2:=holds.append hnews
 rw [← flat_append] at hrep2
 have hbl : BlkRep (w.drew.alloc (.cells cs e)) (g.bind k w.drew.heap.size cs.size) lim w.drew.heap.size cs.size (.row tt (l1 ++ l2)):=by
  refine BlkRep.mkRow ⟨cs,e,heap_alloc_new w.drew _,rfl,?_,fun j c x hc hx=>?_⟩
  ·rw [flat_length,hcs,List.length_append];exact Nat.mul_le_mul_right _ hcap
  ·have hlt:=(List.getElem?_eq_some_iff.1 hc).1
   have hlen : (flat tt (l1 ++ l2)).length = (olds ++ news).length:=by simpa using hrep2.1
   rw [← hcells,Array.getElem?_append_left (by simp only [List.size_toArray];omega)] at hx
   exact (hrep2.2 j c x hc hx).bind (men_flat hc k) (hs2.me.oldA _)
 refine ⟨_,_,g.bind k w.drew.heap.size cs.size,hrun,hs2.push hk cs e (.row tt (l1 ++ l2)) hbl ?_ d,⟨htr.os,htr.tape,htr.output,⟨htr.size.1,Nat.le_trans (Nat.le_succ _) htr.size.2⟩,htr.same,htr.others⟩,fun base hb=>LeG.bind base g hb _ _⟩
 have : (⟨w.heap.size,0,none⟩ : Addr) = ⟨w.drew.heap.size,0 * csz tt,none⟩:=by simp
 rw [this]
 exact .own tt k 0 _ _ _ none hk hcap (fun n h=>by cases h) fun _=>⟨by simp [G.bind],by simp [G.bind,hcs]⟩
def zerosK (P : Program) (C : Cfg) (base : Nat) (m : Mem) (dst : Option Nat) (ats : List TypeId) (a b : AV) (K : Act1 → Prop) : Prop:=
 match dst with
 | some d=>match Nat.blt (2 * d + 2) 200000 with
  | true=>match ats with
   | [t,_]=>match P.underlying t with
    | some (.slice e)=>match C.ty e with
     | some tt=>match b with
      | .lit (.int _ n)=>match a with
       | .own t1 k off len c=>match c with
        | some c=>match tyB t1 tt with
         | true=>memK m k fun bl=>match bl with
          | .row t' l=>asK t' tt l fun l =>
           (0 < n ∧ (c : Int) < len + n ∧ (len + n.toNat) * bsz tt ≤ 140737488355328 ∧ off + len ≤ l.length) ∧
           odK base d fun e=>K ⟨.own tt e 0 (len + n.toNat) none,[(k,.row tt l)],[(e,some (.row tt ((l.drop off).take len ++ List.replicate n.toNat (dflt tt))))],[e]⟩
          | .box _=>False
          | .mp _ _=>False
          | .pm _ _ _=>False
         | false=>False
        | none=>False
       | _=>False
      | _=>False
     | none=>False
    | _=>False
   | _=>False
  | false=>False
 | none=>False
theorem zerosK_ok {P : Program} {C : Cfg} (hC : CfgOk P C) {base : Nat} {m : Mem} {f : List AV} {o : Oper} {x y : Operand} {ats : Array TypeId}
  (ho : o.op = .call { callee:=.builtin .append,args:=#[x,y],argTypes:=ats }) (hint : ∃ tx k,ats[1]? = some tx ∧ P.underlying tx = some (.int k)) {K : Act1 → Prop} (h : zerosK P C base m o.dst ats.toList (aval f x) (aval f y) K) :
  ∃ c,K c ∧ (∀ p ∈ c.rd,mget m p.1 = some p.2) ∧ AOk P base o f c:=by
 obtain ⟨tx,kx,hats1,htx⟩:=hint
 unfold zerosK at h
 split at h
 case h_2=>exact h.elim
 rename_i d hd
 cases hbl : Nat.blt (2 * d + 2) 200000 with
 | false=>rw [hbl] at h;exact h.elim
 | true =>
 rw [hbl] at h
 simp only at h
 split at h
 case h_2=>exact h.elim
 rename_i t tx' hats
 have hats' : ats = #[t,tx']:=by rw [← Array.toArray_toList (xs:=ats),hats]
 subst hats'
 simp at hats1
 subst hats1
 split at h
 case h_2=>exact h.elim
 rename_i e ht
 cases hce : C.ty e with
 | none=>rw [hce] at h;exact h.elim
 | some tt =>
 rw [hce] at h
 simp only at h
 split at h
 case h_2=>exact h.elim
 rename_i kn n hy
 split at h
 case h_2=>exact h.elim
 rename_i t1 k off len c hax
 cases c with
 | none=>exact h.elim
 | some c =>
 simp only at h
 cases htb : tyB t1 tt with
 | false=>rw [htb] at h;exact h.elim
 | true =>
 rw [htb] at h
 have e1:=tyB_ok htb
 subst e1
 simp only at h
 obtain ⟨b,hb,h1⟩:=memK_ok h
 clear h
 cases b with
 | box cs=>exact h1.elim
 | mp _ _=>exact h1.elim
 | pm _ _ _=>exact h1.elim
 | row t' l =>
 obtain ⟨e2,h2⟩:=asK_ok h1
 clear h1
 subst e2
 obtain ⟨⟨hn0,hnr,hfit,hlen⟩,hK⟩:=h2
 rw [odK_eq] at hK
 obtain ⟨i,z,hi,hsz,hby,hz,hzc⟩:=info_of hC hce
 have hzs : z.cells.size = csz t':=by have:=congrArg List.length hzc;rw [zc_length] at this;simpa using this
 have hxm : x ∈ o.op.operands.toList:=by rw [ho];simp [Op.operands,Call.operands]
 have hym : y ∈ o.op.operands.toList:=by rw [ho];simp [Op.operands,Call.operands]
 have hkl : base + (2 * d + 1) < base + L ∨ (base + (2 * d + 1)) % 2 = 1:=.inl (idlt base d hbl).2
 have hcz:=csz_pos t'
 have hb1 : 1 ≤ bsz t':=by cases t'<;>decide
 obtain ⟨N',rfl⟩ : ∃ N' : Nat,n = (N' : Int):=⟨n.toNat,by omega⟩
 simp only [Int.toNat_natCast] at hfit hK
 refine ⟨_,hK,by simp [hb],fun f' m' hop hrd w g a hs N Q hN=>?_⟩
 have hmk : m' k = some (.row t' l):=hrd (k,.row t' l) (by simp)
 have hal : g.al k:=(hs.me.al k).2 (by simp [hmk])
 have hry:=hop y hym _ _ _ _ (rep_aval hs y)
 rw [hy] at hry
 have hyv:=rep_lit hry
 have hrx:=hop x hxm _ _ _ _ (rep_aval hs x)
 rw [hax] at hrx
 have hself : srcK [(k,.row t' l)] t' (.own t' k off len (some c)) (fun l' rd=>l' = (l.drop off).take len ∧ rd = [(k,.row t' l)]):=by
  simp only [srcK,memK,Nat.beq_refl]
  have h1 : tyB t' t' = true:=by simp [tyB,Nat.beq_refl]
  rw [h1]
  have h2 : castL t' t' l = some l:=by cases t'<;>rfl
  simp only [asK,h2]
  refine ⟨hlen,?_⟩
  simp
 obtain ⟨l',rd',⟨rfl,rfl⟩,_,hself⟩:=srcK_ok hself
 obtain ⟨olds,ho2⟩:=hself m' w g (base + L) (a.eval x) hs.me (by simpa using hmk) hrx
 have hl1 : ((l.drop off).take len).length = len:=by rw [List.length_take,List.length_drop];have hlen' : off + len ≤ l.length:=hlen;omega
 have hxv : ∃ bs,a.eval x = .slice bs len c:=by
  generalize hE : a.eval x = E at hrx
  cases hrx with
  | own _ _ _ _ b cap _ hk hc hcc hh=>obtain rfl:=hcc c rfl;exact ⟨_,rfl⟩
  | ownE _ _ _ _ ad hk hcc=>obtain rfl:=hcc c rfl;exact ⟨ad,rfl⟩
 obtain ⟨bs,hE⟩:=hxv
 have hon:=ho2.len
 rw [hl1] at hon
 have hold : (Builtin.firstCells (csz t') len (.slice bs len c)).run P w.drew = .ok olds.toArray w.drew:=by
  rcases ho2.at_ with ⟨ad,cp,e1,h1⟩|⟨cp,e1,e2,e3⟩
  ·rw [hE,hl1] at e1
   cases e1
   exact run_firstCells_some w.drew _ _ ad _ c _ hon fun j v hj=>h1 j v hj
  ·rw [hE] at e1
   cases e1
   rw [e3];simp [Builtin.firstCells]
 have hmul : (len + N') * 1 ≤ (len + N') * bsz t':=Nat.mul_le_mul_left _ hb1
 have hmul2 : N' * bsz t' ≤ (len + N') * bsz t':=Nat.mul_le_mul_right _ (Nat.le_add_left _ _)
 have hg : c < len + N':=by omega
 have hrun:=run_append_grow_zeros (P:=P) w t tx' o.type e i z kx kn ht htx hi hz (by omega) bs len c olds (by rw [hsz];exact hold) N' (by omega) hg (by omega) (by rw [hby];omega) (by rw [hby];exact growslice_fits hg hfit)
 have hcap:=grownCap_ge w (len + N') c e
 have hzm : (Builtin.zeroCells z.cells N').toList = (madeCells z.cells (N' * csz t')).toList:=by unfold Builtin.zeroCells madeCells;rw [hzs]
 have hrepz : RepL w g (base + L) (flat t' (List.replicate N' (dflt t'))) (Builtin.zeroCells z.cells N').toList.toArray:=by rw [hzm];simpa using madeCells_ok hzc N' w g (base + L)
 obtain ⟨w',r,g',r1,r2,r3,r4⟩:=grow_ok2 (P:=P) hC hce (t:=t) (tx:=tx') (ty:=o.type) hs hkl (l1:=(l.drop off).take len) (l2:=List.replicate N' (dflt t')) hzs hrepz ho2.rep
  (by rw [hl1,List.length_replicate];exact hcap) (by rw [hl1,List.length_replicate];exact hrun) o.dst
 rw [hl1,List.length_replicate] at r2
 unfold Oper.wp
 rw [exec_append ho (by rw [hE,hyv];exact r1),Oper.upon_value]
 exact hN w' g' _ r2 r3 (r4 base (Nat.le_add_right _ _))
open Go Go.RowKit
def u8sK : List AV → (List Int → Prop) → Prop
 | [],K=>K []
 | c :: r,K=>match c with
  | .lit (.int .u8 n)=>u8sK r fun l=>K (n :: l)
  | _=>False
theorem u8sK_ok : ∀ {cs : List AV} {K : List Int → Prop},u8sK cs K → ∃ l,K l ∧ cs = flat .u8 l
 | [],K,h=>⟨[],h,rfl⟩
 | c :: r,K,h=>by
  unfold u8sK at h
  split at h
  ·rename_i n
   obtain ⟨l,hK,e⟩:=u8sK_ok h
   exact ⟨n :: l,hK,by rw [e];rfl⟩
  ·exact h.elim
def arrK (P : Program) (m : Mem) (t : TypeId) (v : AV) (f : List AV) (lo hi mx : Option Operand) (K : Act1 → Prop) : Prop:=
 match P.underlying t with
 | some (.array n e)=>match szOf P e with
  | some 1=>match lo with
   | none=>match mx with
    | none=>match hi with
     | some hx=>avalK f hx fun b=>match b with
      | .lit (.int _ b)=>match v with
       | .ptr k 0=>memK m k fun bl=>match bl with
        | .box cs=>u8sK cs fun l=>(0 ≤ b ∧ b ≤ n ∧ n = l.length) ∧ K ⟨.vec .u8 (l.take b.toNat),[(k,.box cs)],[(k,none)],[]⟩
        | .row _ _=>False
        | .mp _ _=>False
        | .pm _ _ _=>False
       | _=>False
      | _=>False
     | none=>False
    | some _=>False
   | some _=>False
  | _=>False
 | _=>False
theorem arrK_ok {P : Program} {base : Nat} {m : Mem} {f : List AV} {o : Oper} {t : TypeId} {x : Operand} {lo hi mx : Option Operand} (ho : o.op = .slice t x lo hi mx) {K : Act1 → Prop} (h : arrK P m t (aval f x) f lo hi mx K) :
  ∃ c,K c ∧ (∀ p ∈ c.rd,mget m p.1 = some p.2) ∧ AOk P base o f c:=by
 unfold arrK at h
 split at h
 case h_2=>exact h.elim
 rename_i n e hu
 split at h
 case h_2=>exact h.elim
 rename_i hz
 cases lo with
 | some _=>exact h.elim
 | none =>
 cases mx with
 | some _=>exact h.elim
 | none =>
 cases hi with
 | none=>exact h.elim
 | some hx =>
 simp only [avalK_eq] at h
 split at h
 case h_2=>exact h.elim
 rename_i kb b hb
 split at h
 case h_2=>exact h.elim
 rename_i k hv
 obtain ⟨bl,hbl,h1⟩:=memK_ok h
 clear h
 cases bl with
 | row _ _=>exact h1.elim
 | mp _ _=>exact h1.elim
 | pm _ _ _=>exact h1.elim
 | box cs =>
 simp only at h1
 obtain ⟨l,⟨⟨h0,hbn,hnl⟩,hK⟩,hcs⟩:=u8sK_ok h1
 clear h1
 refine ⟨_,hK,by simp [hbl],fun f' m' hop hrd w g a hs N Q hN=>?_⟩
 have hmk : m' k = some (.box cs):=hrd (k,.box cs) (by simp)
 have hal : g.al k:=(hs.me.al k).2 (by simp [hmk])
 have hrx:=hop x (by rw [ho];simp [Op.operands]) _ _ _ _ (rep_aval hs x)
 have hrb:=hop hx (by rw [ho];simp [Op.operands]) _ _ _ _ (rep_aval hs hx)
 rw [hv] at hrx
 rw [hb] at hrb
 have ex:=rep_ptr hrx hal
 have eb:=rep_lit hrb
 obtain ⟨z0,c,ty,b1,b2,b3,b4⟩:=hs.me.blk k _ hmk
 have hlen : cs.length = l.length:=by rw [hcs,flat_length];simp [csz]
 have hrun : (Instr.sliceAt t (a.eval x) none (some (a.eval hx)) none).run P w = .ok (.slice (some ⟨g.be k,0,none⟩) b.toNat n) w:=by
  rw [ex,eb]
  simp [Instr.sliceAt,run_underlying hu,Instr.sliceBounds,Instr.sureAddr,Eng.run_sizeOf hz,run_sliceBound w kb b n .sliceAlen h0 hbn,add_none]
 have hs1 : Sim w (g.freeze k) (base + L) f' (put m' k none) a:=⟨hs.fr.freeze k,hs.df,hs.me.freeze hal⟩
 have hvec : Rep w (g.freeze k) (base + L) (.vec .u8 (l.take b.toNat)) (.slice (some ⟨g.be k,0,none⟩) b.toNat n):=by
  have hl : (l.take b.toNat).length = b.toNat:=by rw [List.length_take];omega
  have hget : ∀ (i : Nat) q,(flat .u8 (l.take b.toNat))[i]? = some q → cs[i]? = some q ∧ i < c.size:=by
   intro i q hi
   rw [flat_take,List.getElem?_take] at hi
   split at hi
   ·rw [hcs];exact ⟨hi,by have:=(List.getElem?_eq_some_iff.1 hi).1;rw [← hcs] at this;omega⟩
   ·cases hi
  have:=Rep.vec (w:=w) (g:=g.freeze k) (lim:=base + L) .u8 (l.take b.toNat) (g.be k) 0 n (fun i=>(c[i]?).getD undef) (by rw [hl];omega) (.inr ⟨z0,rfl⟩)
   (fun i q hi=>by
    have hlt:=(hget i q hi).2
    rw [Nat.zero_add,cell_of_row w _ i c ty _ b1,Array.getElem?_eq_getElem hlt];simp)
   (fun i q hi=>by
    obtain ⟨h1,hlt⟩:=hget i q hi
    simp only [Array.getElem?_eq_getElem hlt,Option.getD_some]
    exact (b4 i q _ h1 (Array.getElem?_eq_getElem hlt)).freeze k)
  rwa [hl] at this
 unfold Oper.wp
 have hex : (execOp a.eval o).run P w = .ok (.value (.slice (some ⟨g.be k,0,none⟩) b.toNat n)) w:=by
  unfold execOp;rw [ho];simp [hrun]
 rw [hex,Oper.upon_value]
 exact hN w (g.freeze k) _ (hs1.put hvec o.dst) ⟨rfl,rfl,rfl,⟨Nat.le_refl _,Nat.le_refl _⟩,fun _ _=>rfl,fun _ _=>rfl⟩ (LeG.freeze base g k)
def toStrK (P : Program) (m : Mem) (src dst : TypeId) (v : AV) (K : Act1 → Prop) : Prop:=
 match P.underlying src with
 | some (.slice e)=>match P.underlying e with
  | some (.int .u8)=>match P.underlying dst with
   | some .string=>srcK m .u8 v fun l rd=>K ⟨.lit (.string (strOfNums l)),rd,[],[]⟩
   | _=>False
  | _=>False
 | _=>False
theorem flat_u8 (l : List Int) : flat .u8 l = l.map fun n=>.lit (.int .u8 n):=by
 induction l with
 | nil=>rfl
 | cons a r ih=>simp only [List.map_cons,← ih];rfl
theorem toStrK_ok {P : Program} {base : Nat} {m : Mem} {f : List AV} {o : Oper} {src dst : TypeId} {x : Operand} (ho : o.op = .convert src dst x) {K : Act1 → Prop} (h : toStrK P m src dst (aval f x) K) :
  ∃ c,K c ∧ (∀ p ∈ c.rd,mget m p.1 = some p.2) ∧ AOk P base o f c:=by
 unfold toStrK at h
 split at h
 case h_2=>exact h.elim
 rename_i e hs
 split at h
 case h_2=>exact h.elim
 rename_i he
 split at h
 case h_2=>exact h.elim
 rename_i hd
 obtain ⟨l,rd,hK,hrd,hy⟩:=srcK_ok h
 refine ⟨_,hK,hrd,AOk.val fun f' m' w g a hs2 hop hrd2=>?_⟩
 obtain ⟨news,hn⟩:=hy m' w g (base + L) (a.eval x) hs2.me hrd2 (hop x (by rw [ho];simp [Op.operands]))
 have hnews : news = l.map (Value.int .u8):=by
  have h1:=hn.rep
  rw [flat_u8] at h1
  apply List.ext_getElem?
  intro i
  by_cases hi : i < l.length
  ·have hlen : news.length = l.length:=by have:=h1.1;simpa using this.symm
   have:=h1.2 i (.lit (.int .u8 l[i])) (news[i]'(by omega)) (by simp [hi]) (by simp [show i < news.length by omega])
   have:=rep_lit this
   simp [show i < news.length by omega,hi,this]
  ·have hlen : news.length = l.length:=by have:=h1.1;simpa using this.symm
   rw [List.getElem?_eq_none (by omega),List.getElem?_eq_none (by simp;omega)]
 have hrun : (convert src dst (a.eval x)).run P w = .ok (.string (strOfNums l)) w:=by
  rcases hn.at_ with ⟨ad,cap,e1,h1⟩|⟨cap,e1,e2,e3⟩
  ·have hl : (loadCells ad l.length).run P w = .ok (l.map (Value.int .u8)).toArray w:=by
    have:=run_loadCells_list (P:=P) w ad (l.map (Value.int .u8)) (fun j v hj=>h1 j v (by rw [hnews];exact hj))
    simpa using this
   rw [e1,run_convert_bytes_string w src dst e _ l.length cap hs he hd,run_bytesToString w _ l.length cap l hl,foldl_push_bytes]
   simp [strOfNums,ByteArray.empty,ByteArray.emptyWithCapacity]
   rfl
  ·rw [e1,e2,run_convert_bytes_nil w src e hs he 0 cap dst hd]
   rfl
 refine ⟨_,?_,.lit _⟩
 unfold execOp;rw [ho];simp [hrun]
def isStrK (P : Program) (src dst : TypeId) : Bool:=match P.underlying src with
 | some (.slice _)=>match P.underlying dst with
  | some .string=>true
  | _=>false
 | _=>false
open Go Go.RowKit
def posK : List AV → (List Pos → Prop) → Prop
 | [],K=>K []
 | [_],_=>False
 | c :: d :: r,K=>match c with
  | .lit (.int .i64 x)=>match d with
   | .lit (.int .i64 y)=>posK r fun l=>K (⟨x,y⟩ :: l)
   | _=>False
  | _=>False
theorem posK_ok : ∀ {cs : List AV} {K : List Pos → Prop},posK cs K → ∃ l,K l ∧ cs = flat .pos l
 | [],K,h=>⟨[],h,rfl⟩
 | [_],K,h=>h.elim
 | c :: d :: r,K,h=>by
  unfold posK at h
  split at h
  ·rename_i x
   split at h
   ·rename_i y
    obtain ⟨l,hK,e⟩:=posK_ok h
    exact ⟨⟨x,y⟩ :: l,hK,by rw [e];rfl⟩
   ·exact h.elim
  ·exact h.elim
def arrS (P : Program) (C : Cfg) (m : Mem) (t : TypeId) (v : AV) (K : Act1 → Prop) : Prop:=
 match P.underlying t with
 | some (.array n e)=>match szOf P e with
  | some 2=>match v with
   | .ptr k 0=>memK m k fun bl=>match bl with
    | .box cs=>posK cs fun l=>(n = l.length) ∧ K ⟨.own .pos k 0 n (some n),[(k,.box cs)],[(k,some (.row .pos l))],[]⟩
    | .row tt l=>match tyB tt .pos with
     | true=>(n = l.length) ∧ K ⟨.own .pos k 0 n (some n),[(k,.row tt l)],[],[]⟩
     | false=>False
    | _=>False
   | _=>False
  | _=>False
 | _=>False
theorem slice_whole {P : Program} {t e : TypeId} {n : Nat} (hu : P.underlying t = some (.array n e)) (w : World) (b : Nat) {z : Nat} (hz : szOf P e = some z) :
  (Instr.sliceAt t (.pointer (some ⟨b,0,none⟩)) none none none).run P w = .ok (.slice (some ⟨b,0,none⟩) n n) w:=by
 simp [Instr.sliceAt,run_underlying hu,Instr.sliceBounds,Instr.sureAddr,Eng.run_sizeOf hz,add_none]
theorem arrS_ok {P : Program} {C : Cfg} {base : Nat} {m : Mem} {f : List AV} {o : Oper} {t : TypeId} {x : Operand} (ho : o.op = .slice t x none none none) {K : Act1 → Prop} (h : arrS P C m t (aval f x) K) :
  ∃ c,K c ∧ (∀ p ∈ c.rd,mget m p.1 = some p.2) ∧ AOk P base o f c:=by
 unfold arrS at h
 split at h
 case h_2=>exact h.elim
 rename_i n e hu
 split at h
 case h_2=>exact h.elim
 rename_i hz
 split at h
 case h_2=>exact h.elim
 rename_i k hv
 obtain ⟨bl,hbl,h1⟩:=memK_ok h
 clear h
 cases bl with
 | mp _ _=>exact h1.elim
 | pm _ _ _=>exact h1.elim
 | row tt l =>
  simp only at h1
  cases htb : tyB tt .pos with
  | false=>rw [htb] at h1;exact h1.elim
  | true =>
  rw [htb] at h1
  have:=tyB_ok htb
  subst this
  obtain ⟨hnl,hK⟩:=h1
  refine ⟨_,hK,by simp [hbl],AOk.val fun f' m' w g a hs hop hrd=>?_⟩
  have hmk : m' k = some (.row .pos l):=hrd (k,.row .pos l) (by simp)
  have hal : g.al k:=(hs.me.al k).2 (by simp [hmk])
  have hrx:=hop x (by rw [ho];simp [Op.operands])
  rw [hv] at hrx
  have ex:=rep_ptr hrx hal
  refine ⟨.slice (some ⟨g.be k,0,none⟩) n n,by unfold execOp;rw [ho];simp [ex,slice_whole hu w (g.be k) hz],?_⟩
  have hle:=(hs.me.blk k _ hmk).le
  have:=Rep.own (w:=w) (g:=g) (lim:=base + L) .pos k 0 n (g.be k) n (some n) (hs.me.lt k hal) (Nat.le_refl _) (fun j hj=>by cases hj;rfl) fun _=>⟨rfl,by rw [Nat.zero_add,hnl];exact hle⟩
  rwa [Nat.zero_mul] at this
 | box cs =>
  simp only at h1
  obtain ⟨l,⟨hnl,hK⟩,hcs⟩:=posK_ok h1
  clear h1
  refine ⟨_,hK,by simp [hbl],fun f' m' hop hrd w g a hs N Q hN=>?_⟩
  have hmk : m' k = some (.box cs):=hrd (k,.box cs) (by simp)
  have hal : g.al k:=(hs.me.al k).2 (by simp [hmk])
  have hrx:=hop x (by rw [ho];simp [Op.operands]) _ _ _ _ (rep_aval hs x)
  rw [hv] at hrx
  have ex:=rep_ptr hrx hal
  obtain ⟨z0,c,ty,b1,b2,b3,b4⟩:=hs.me.blk k _ hmk
  have hsz : (flat .pos l).length ≤ g.sz k:=by rw [← hcs];exact b3
  have hrow : BlkRep w g (base + L) (g.be k) (g.sz k) (.row .pos l):=.inr ⟨z0,c,ty,b1,b2,hsz,fun i a x ha hx=>b4 i a x (by rw [hcs];exact ha) hx⟩
  have hle:=hrow.le
  have hme:=hs.me.write (w':=w) hal z0 (.row .pos l) (Nat.le_refl _) (fun _ _ _=>rfl) hrow
  have hs1 : Sim w g (base + L) f' (put m' k (some (.row .pos l))) a:=⟨hs.fr,hs.df,hme⟩
  have hown : Rep w g (base + L) (.own .pos k 0 n (some n)) (.slice (some ⟨g.be k,0,none⟩) n n):=by
   have:=Rep.own (w:=w) (g:=g) (lim:=base + L) .pos k 0 n (g.be k) n (some n) (hs.me.lt k hal) (Nat.le_refl _) (fun j hj=>by cases hj;rfl) fun _=>⟨rfl,by rw [Nat.zero_add,hnl];exact hle⟩
   rwa [Nat.zero_mul] at this
  unfold Oper.wp
  have hex : (execOp a.eval o).run P w = .ok (.value (.slice (some ⟨g.be k,0,none⟩) n n)) w:=by
   unfold execOp;rw [ho];simp [ex,slice_whole hu w (g.be k) hz]
  rw [hex,Oper.upon_value]
  exact hN w g _ (hs1.put hown o.dst) ⟨rfl,rfl,rfl,⟨Nat.le_refl _,Nat.le_refl _⟩,fun _ _=>rfl,fun _ _=>rfl⟩ (LeG.refl base g)
def arrK2 (P : Program) (C : Cfg) (m : Mem) (t : TypeId) (v : AV) (f : List AV) (lo hi mx : Option Operand) (K : Act1 → Prop) : Prop:=
 match hi with
 | none=>match lo with
  | none=>match mx with
   | none=>arrS P C m t v K
   | some _=>False
  | some _=>False
 | some h=>arrK P m t v f lo (some h) mx K
theorem arrK2_ok {P : Program} {C : Cfg} {base : Nat} {m : Mem} {f : List AV} {o : Oper} {t : TypeId} {x : Operand} {lo hi mx : Option Operand} (ho : o.op = .slice t x lo hi mx) {K : Act1 → Prop} (h : arrK2 P C m t (aval f x) f lo hi mx K) :
  ∃ c,K c ∧ (∀ p ∈ c.rd,mget m p.1 = some p.2) ∧ AOk P base o f c:=by
 unfold arrK2 at h
 cases hi with
 | some b=>exact arrK_ok ho h
 | none =>
  cases lo with
  | some _=>exact h.elim
  | none =>
   cases mx with
   | some _=>exact h.elim
   | none=>exact arrS_ok ho h
open Go Go.RowKit Go.MapKept
def ikB (a b : IntKind) : Bool:=decide (a = b)
theorem ikB_ok {a b : IntKind} (h : ikB a b = true) : a = b:=of_decide_eq_true h
def getZ (o : Option Int) : Int:=o.getD 0
def setF (F : Int → Int → Option Int) (x y v : Int) : Int → Int → Option Int:=fun a b=>if a = x ∧ b = y then some v else F a b
def cntF (F : Int → Int → Option Int) (x y : Int) (n : Nat) : Nat:=if (F x y).isSome = true then n else n + 1
def noF : Int → Int → Option Int:=fun _ _=>none
theorem prV_inj {x y a b : Int} (h : prV x y = prV a b) : x = a ∧ y = b:=by
 unfold prV at h
 simp only [Value.agg.injEq,Array.mk.injEq,List.cons.injEq,Value.int.injEq,true_and,and_true] at h
 exact h
theorem find_pm {P : Program} {kt : TypeId} (heq : ∀ (w : World) (x y a b : Int),(Op.equal kt (prV x y) (prV a b)).run P w = .ok (decide (x = a ∧ y = b)) w) (w : World) (x y : Int) :
  ∀ (es : List MapEntry) (i : Nat),(∀ e ∈ es,∃ a b,e.key = prV a b) →
   ((Instr.findAsking kt (prV x y) es i).run P w = .ok none w ∧ ∀ e ∈ es,e.key ≠ prV x y) ∨
   ∃ j e,(Instr.findAsking kt (prV x y) es i).run P w = .ok (some (i + j,e.val)) w ∧ es[j]? = some e ∧ e.key = prV x y
 | [],i,_=>.inl ⟨by simp [Instr.findAsking],by simp⟩
 | e :: es,i,hall=>by
  obtain ⟨a,b,hk⟩:=hall e (by simp)
  have hr:=heq w x y a b
  rw [← hk] at hr
  by_cases hab : x = a ∧ y = b
  ·rw [decide_eq_true hab] at hr
   right
   exact ⟨0,e,by simp [Instr.findAsking,hr],rfl,by rw [hk,hab.1,hab.2]⟩
  ·rw [decide_eq_false hab] at hr
   have hne : e.key ≠ prV x y:=fun h=>by
    rw [hk] at h
    obtain ⟨h1,h2⟩:=prV_inj h
    exact hab ⟨h1.symm,h2.symm⟩
   rcases find_pm heq w x y es (i + 1) (fun f hf=>hall f (by simp [hf])) with ⟨h1,h2⟩|⟨j,f,h1,h2,h3⟩
   ·left
    refine ⟨by simp [Instr.findAsking,hr,h1],fun f hf=>?_⟩
    rcases List.mem_cons.1 hf with rfl|hf
    ·exact hne
    ·exact h2 f hf
   ·right
    exact ⟨j + 1,f,by simp [Instr.findAsking,hr,h1,Nat.add_assoc,Nat.add_comm 1 j],by simpa using h2,h3⟩
theorem PmOk.find {P : Program} {kt : TypeId} (heq : ∀ (w : World) (x y a b : Int),(Op.equal kt (prV x y) (prV a b)).run P w = .ok (decide (x = a ∧ y = b)) w) {ik : IntKind} {F : Int → Int → Option Int} {l : List MapEntry} (h : PmOk ik F l) (w : World) (x y : Int) :
  match F x y with
  | none=>(Instr.findAsking kt (prV x y) l).run P w = .ok none w
  | some z=>∃ j e,(Instr.findAsking kt (prV x y) l).run P w = .ok (some (j,.int ik z)) w ∧ l[j]? = some e ∧ e.key = prV x y ∧ e.val = .int ik z:=by
 rcases find_pm heq w x y l 0 (fun e he=>by obtain ⟨a,b,_,h1,_⟩:=h.ent e he;exact ⟨a,b,h1⟩) with ⟨h1,h2⟩|⟨j,e,h1,h2,h3⟩
 ·cases hF : F x y with
  | none=>exact h1
  | some z=>obtain ⟨e,he,hk⟩:=h.has x y z hF;exact absurd hk (h2 e he)
 ·obtain ⟨a,b,z,k1,k2,k3⟩:=h.ent e (List.mem_of_getElem? h2)
  obtain ⟨rfl,rfl⟩:=prV_inj (k1.symm.trans h3)
  rw [k3]
  refine ⟨j,e,?_,h2,h3,k2⟩
  rw [h1,k2,Nat.zero_add]
def pmLookK (C : Cfg) (t : TypeId) (k : Nat) (ik : IntKind) (F : Int → Int → Option Int) (n : Nat) (key : AV) (ok : Bool) (K : Act1 → Prop) : Prop:=
 match C.pk t with
 | some ik2=>match ikB ik2 ik with
  | true=>match key with
   | .agg [.lit (.int .i64 x),.lit (.int .i64 y)]=>match ok with
    | true=>K ⟨.tup [.lit (.int ik (getZ (F x y))),.lit (.bool (F x y).isSome)],[(k,.pm ik F n)],[],[]⟩
    | false=>K ⟨.lit (.int ik (getZ (F x y))),[(k,.pm ik F n)],[],[]⟩
   | _=>False
  | false=>False
 | none=>False
theorem rep_mp {w : World} {g : G} {lim k : Nat} {x : Value} (h : Rep w g lim (.mp k) x) (ha : g.al k) : x = .map (some (g.be k)):=by
 cases h with|mp _ b hk h=>rw [h ha]
theorem rep_pr {w : World} {g : G} {lim : Nat} {x y : Int} {v : Value} (h : Rep w g lim (.agg [.lit (.int .i64 x),.lit (.int .i64 y)]) v) : v = prV x y:=by
 cases h with
 | agg cs xs hl h =>
  have h0 : xs.size = 2:=hl.symm
  have a0:=h 0 _ xs[0] rfl (Array.getElem?_eq_getElem (by omega))
  have a1:=h 1 _ xs[1] rfl (Array.getElem?_eq_getElem (by omega))
  have b0:=rep_lit a0
  have b1:=rep_lit a1
  unfold prV
  congr 1
  apply Array.ext
  ·exact h0
  ·intro i h1 h2
   match i,h2 with
   | 0,_=>exact b0
   | 1,_=>exact b1
theorem pmLook_ok {P : Program} {C : Cfg} (hC : CfgOk P C) {base : Nat} {m : Mem} {f : List AV} {o : Oper} {t : TypeId} {x y : Operand} {ok : Bool} (ho : o.op = .lookup t x y ok) {k : Nat} (hax : aval f x = .mp k) {ik : IntKind} {F : Int → Int → Option Int} {n : Nat}
  (hb : mget m k = some (.pm ik F n)) {K : Act1 → Prop} (h : pmLookK C t k ik F n (aval f y) ok K) : ∃ c,K c ∧ (∀ p ∈ c.rd,mget m p.1 = some p.2) ∧ AOk P base o f c:=by
 have hx : x ∈ o.op.operands.toList:=by rw [ho];simp [Op.operands]
 have hy : y ∈ o.op.operands.toList:=by rw [ho];simp [Op.operands]
 unfold pmLookK at h
 cases hpk : C.pk t with
 | none=>rw [hpk] at h;exact h.elim
 | some ik2 =>
 rw [hpk] at h
 simp only at h
 cases hik : ikB ik2 ik with
 | false=>rw [hik] at h;exact h.elim
 | true =>
 rw [hik] at h
 have:=ikB_ok hik
 subst this
 obtain ⟨kt,et,ht,hz,hck,hfk,heq⟩:=(hC.pk t ik2 hpk).ex
 simp only at h
 split at h
 case h_2=>exact h.elim
 rename_i z1 z2 hay
 have common : ∀ {f' : List AV} {m' : Nat → Option Blk} {w : World} {g : G} {a : Act},Sim w g (base + L) f' m' a → (∀ x ∈ o.op.operands.toList,Rep w g (base + L) (aval f x) (a.eval x)) → m' k = some (.pm ik2 F n) →
   ∀ okv : Bool,(Instr.lookup t (a.eval x) (a.eval y) okv).run P w = .ok (if okv then .tuple #[.int ik2 (getZ (F z1 z2)),.bool (F z1 z2).isSome] else .int ik2 (getZ (F z1 z2))) w:=by
  intro f' m' w g a hs hop hm okv
  have hal : g.al k:=(hs.me.al k).2 (by simp [hm])
  obtain ⟨_,c,cl,b1,b2,b3⟩:=hs.me.blk k _ hm
  have h1:=hop x hx
  rw [hax] at h1
  have h2:=hop y hy
  rw [hay] at h2
  have e1:=rep_mp h1 hal
  have e2:=rep_pr h2
  rw [e1,e2]
  have hf:=b3.find heq w z1 z2
  cases hF : F z1 z2 with
  | none =>
   rw [hF] at hf
   simp only at hf
   cases okv<;>simp [Instr.lookup,run_underlying ht,run_getObj_map b1,hck,hfk,hf,hz,getZ]
  | some v =>
   rw [hF] at hf
   obtain ⟨j,e,hf,_⟩:=hf
   cases okv<;>simp [Instr.lookup,run_underlying ht,run_getObj_map b1,hck,hfk,hf,hz,getZ]
 cases ok with
 | true =>
  refine ⟨_,h,by simp [hb],.val fun f' m' w g a hs hop hrd=>?_⟩
  have hr:=common hs hop (hrd (k,.pm ik2 F n) (by simp)) true
  refine ⟨.tuple #[.int ik2 (getZ (F z1 z2)),.bool (F z1 z2).isSome],by unfold execOp;rw [ho];simp only [if_true] at hr;simp [hr],.tup _ _ rfl fun i a x ha hx=>?_⟩
  match i with
  | 0=>simp at ha hx;subst ha;subst hx;exact .lit _
  | 1=>simp at ha hx;subst ha;subst hx;exact .lit _
  | i + 2=>simp at ha
 | false =>
  refine ⟨_,h,by simp [hb],.val fun f' m' w g a hs hop hrd=>?_⟩
  have hr:=common hs hop (hrd (k,.pm ik2 F n) (by simp)) false
  exact ⟨.int ik2 (getZ (F z1 z2)),by unfold execOp;rw [ho];simp only [Bool.false_eq_true,if_false] at hr;simp [hr],.lit _⟩
def pmPutK (C : Cfg) (t : TypeId) (k : Nat) (ik : IntKind) (F : Int → Int → Option Int) (n : Nat) (key v : AV) (K : Act1 → Prop) : Prop:=
 match C.pk t with
 | some ik2=>match ikB ik2 ik with
  | true=>match key with
   | .agg [.lit (.int .i64 x),.lit (.int .i64 y)]=>match v with
    | .lit (.int ik3 z)=>match ikB ik3 ik with
     | true=>K ⟨und,[(k,.pm ik F n)],[(k,some (.pm ik (setF F x y z) (cntF F x y n)))],[]⟩
     | false=>False
    | _=>False
   | _=>False
  | false=>False
 | none=>False
theorem pmPut_run {P : Program} {t : TypeId} {ik : IntKind} (hp : PairMap P t ik) {w : World} {b : Nat} {c : Array MapEntry} {cl : Nat} (hb : w.heap[b]? = some (.map c cl)) {F : Int → Int → Option Int} (h : PmOk ik F c.toList) (x y z : Int) :
  ∃ (c' : Array MapEntry) (cl' : Nat),(Instr.mapUpdate t (.map (some b)) (prV x y) (.int ik z)).run P w = .ok () { w with heap:=w.heap.setIfInBounds b (.map c' cl') } ∧ c'.size = cntF F x y c.size ∧ PmOk ik (setF F x y z) c'.toList:=by
 obtain ⟨kt,et,ht,hz,hck,hfk,heq⟩:=hp.ex
 have hf:=h.find heq w x y
 cases hF : F x y with
 | none =>
  rw [hF] at hf
  simp only at hf
  refine ⟨c.push { key:=prV x y,val:=.int ik z,born:=cl },cl + 1,?_,by unfold cntF;rw [hF];simp,?_⟩
  ·simp [Instr.mapUpdate,run_underlying ht,run_getObj_map hb,hck,hfk,hf,run_setObj_map _ hb]
  ·have hnk : ∀ e ∈ c.toList,e.key ≠ prV x y:=fun e he hk=>by
    obtain ⟨p,q,r,k1,_,k3⟩:=h.ent e he
    obtain ⟨rfl,rfl⟩:=prV_inj (k1.symm.trans hk)
    rw [hF] at k3;cases k3
   refine ⟨fun e he=>?_,fun p q r hr=>?_,fun i j e f hi hj hk=>?_⟩
   ·rw [Array.toList_push,List.mem_append,List.mem_singleton] at he
    rcases he with he|rfl
    ·obtain ⟨p,q,r,k1,k2,k3⟩:=h.ent e he
     refine ⟨p,q,r,k1,k2,?_⟩
     unfold setF
     rw [if_neg (fun e2=>hnk e he (by rw [k1,e2.1,e2.2]))];exact k3
    ·exact ⟨x,y,z,rfl,rfl,by unfold setF;rw [if_pos ⟨rfl,rfl⟩]⟩
   ·rw [Array.toList_push]
    unfold setF at hr
    by_cases hpq : p = x ∧ q = y
    ·exact ⟨_,List.mem_append_right _ (List.mem_singleton.2 rfl),by rw [hpq.1,hpq.2]⟩
    ·rw [if_neg hpq] at hr
     obtain ⟨e,he,hk⟩:=h.has p q r hr
     exact ⟨e,List.mem_append_left _ he,hk⟩
   ·rw [Array.toList_push] at hi hj
    have split : ∀ (i : Nat) (e : MapEntry),(c.toList ++ [{ key:=prV x y,val:=Value.int ik z,born:=cl }])[i]? = some e → (c.toList[i]? = some e ∧ e ∈ c.toList) ∨ (i = c.toList.length ∧ e.key = prV x y):=fun i e he=>by
     rw [List.getElem?_append] at he
     split at he
     ·exact .inl ⟨he,List.mem_of_getElem? he⟩
     ·rename_i hlt
      cases hq : i - c.toList.length with
      | zero=>rw [hq] at he;simp at he;subst he;exact .inr ⟨by omega,rfl⟩
      | succ q=>rw [hq] at he;simp at he
    rcases split i e hi with ⟨a1,a2⟩|⟨a1,a2⟩
    ·rcases split j f hj with ⟨b1,b2⟩|⟨b1,b2⟩
     ·exact h.one i j e f a1 b1 hk
     ·exact absurd (hk.trans b2) (hnk e a2)
    ·rcases split j f hj with ⟨b1,b2⟩|⟨b1,b2⟩
     ·exact absurd (hk.symm.trans a2) (hnk f b2)
     ·omega
 | some v =>
  rw [hF] at hf
  obtain ⟨j,e,hf,hj,hk,hv⟩:=hf
  have hlt : j < c.size:=by have:=(List.getElem?_eq_some_iff.1 hj).1;simpa using this
  have hcj : c[j]? = some e:=by rw [← Array.getElem?_toList];exact hj
  have hcj2 : c[j] = e:=by rw [Array.getElem?_eq_getElem hlt] at hcj;exact Option.some.inj hcj
  have hst : (Instr.keyThatStays (prV x y) (prV x y)).run P w = .ok (prV x y) w:=by
   simp [Instr.keyThatStays,prV,Instr.sameBits]
  refine ⟨c.modify j fun e=>{ e with key:=prV x y,val:=.int ik z },cl,?_,by unfold cntF;rw [hF];simp,?_⟩
  ·simp [Instr.mapUpdate,run_underlying ht,run_getObj_map hb,hck,hfk,hf,run_setObj_map _ hb,hcj,hk,hst]
  ·have get : ∀ (i : Nat) (f : MapEntry),(c.modify j fun e=>{ e with key:=prV x y,val:=.int ik z }).toList[i]? = some f → ∃ f0,c.toList[i]? = some f0 ∧ f.key = f0.key ∧ (i = j ∧ f.val = .int ik z ∨ i ≠ j ∧ f = f0):=fun i f hi=>by
    rw [Array.getElem?_toList,Array.getElem?_modify] at hi
    by_cases hij : j = i
    ·subst hij
     rw [if_pos rfl,hcj] at hi
     simp at hi
     subst hi
     exact ⟨e,hj,hk.symm,.inl ⟨rfl,rfl⟩⟩
    ·rw [if_neg hij] at hi
     exact ⟨f,by rw [Array.getElem?_toList];exact hi,rfl,.inr ⟨fun e=>hij e.symm,rfl⟩⟩
   refine ⟨fun f hf=>?_,fun p q r hr=>?_,fun i i2 f f2 hi hi2 hkk=>?_⟩
   ·obtain ⟨i,hi⟩:=List.getElem?_of_mem hf
    obtain ⟨f0,h1,h2,h3⟩:=get i f hi
    obtain ⟨p,q,r,k1,k2,k3⟩:=h.ent f0 (List.mem_of_getElem? h1)
    rcases h3 with ⟨rfl,h3⟩|⟨hne,rfl⟩
    ·rw [hj] at h1;cases h1
     exact ⟨x,y,z,h2.trans hk,h3,by unfold setF;rw [if_pos ⟨rfl,rfl⟩]⟩
    ·refine ⟨p,q,r,k1,k2,?_⟩
     unfold setF
     rw [if_neg]
     ·exact k3
     ·rintro ⟨rfl,rfl⟩
      exact hne (h.one i j f e h1 hj (k1.trans hk.symm))
   ·by_cases hpq : p = x ∧ q = y
    ·refine ⟨{ e with key:=prV x y,val:=.int ik z },?_,by rw [hpq.1,hpq.2]⟩
     refine List.mem_of_getElem? (i:=j) ?_
     rw [Array.getElem?_toList,Array.getElem?_modify,if_pos rfl,hcj];rfl
    ·unfold setF at hr
     rw [if_neg hpq] at hr
     obtain ⟨f,hf,hk2⟩:=h.has p q r hr
     obtain ⟨i,hi⟩:=List.getElem?_of_mem hf
     have hne : ¬ j = i:=fun e2=>by
      subst e2
      rw [hj] at hi;cases hi
      obtain ⟨h1,h2⟩:=prV_inj (hk.symm.trans hk2)
      exact hpq ⟨h1.symm,h2.symm⟩
     refine ⟨f,List.mem_of_getElem? (i:=i) ?_,hk2⟩
     rw [Array.getElem?_toList,Array.getElem?_modify,if_neg hne,← Array.getElem?_toList];exact hi
   ·obtain ⟨g1,a1,a2,_⟩:=get i f hi
    obtain ⟨g2,b1,b2,_⟩:=get i2 f2 hi2
    exact h.one i i2 g1 g2 a1 b1 (by rw [← a2,← b2];exact hkk)
theorem pmPut_ok {P : Program} {C : Cfg} (hC : CfgOk P C) {base : Nat} {m : Mem} {f : List AV} {o : Oper} {t : TypeId} {x y v : Operand} (ho : o.op = .mapUpdate t x y v ∨ o.op = .insert t x y v) {k : Nat} (hax : aval f x = .mp k) {ik : IntKind} {F : Int → Int → Option Int} {n : Nat}
  (hb : mget m k = some (.pm ik F n)) {K : Act1 → Prop} (h : pmPutK C t k ik F n (aval f y) (aval f v) K) : ∃ c,K c ∧ (∀ p ∈ c.rd,mget m p.1 = some p.2) ∧ AOk P base o f c:=by
 have hops : x ∈ o.op.operands.toList ∧ y ∈ o.op.operands.toList ∧ v ∈ o.op.operands.toList:=by rcases ho with ho|ho<;>(rw [ho];simp [Op.operands])
 obtain ⟨hx,hy,hv⟩:=hops
 have hexec : ∀ (ρ : Operand → Value) (w w' : World),(Instr.mapUpdate t (ρ x) (ρ y) (ρ v)).run P w = .ok () w' → (execOp ρ o).run P w = .ok .skip w':=fun ρ w w' h=>by
  rcases ho with ho|ho<;>(unfold execOp;rw [ho];simp [h])
 unfold pmPutK at h
 cases hpk : C.pk t with
 | none=>rw [hpk] at h;exact h.elim
 | some ik2 =>
 rw [hpk] at h
 simp only at h
 cases hik : ikB ik2 ik with
 | false=>rw [hik] at h;exact h.elim
 | true =>
 rw [hik] at h
 have:=ikB_ok hik
 subst this
 simp only at h
 split at h
 case h_2=>exact h.elim
 rename_i z1 z2 hay
 split at h
 case h_2=>exact h.elim
 rename_i ik3 z hav
 cases hi3 : ikB ik3 ik2 with
 | false=>rw [hi3] at h;exact h.elim
 | true =>
 rw [hi3] at h
 have:=ikB_ok hi3
 subst this
 simp only at h
 refine ⟨_,h,by simp [hb],fun f' m' hop hrd w g a hs K Q hK=>?_⟩
 have hm : m' k = some (.pm ik3 F n):=hrd (k,.pm ik3 F n) (by simp)
 have hal : g.al k:=(hs.me.al k).2 (by simp [hm])
 obtain ⟨hz0,c,cl,b1,b2,b3⟩:=hs.me.blk k _ hm
 have h1:=hop x hx _ _ _ _ (rep_aval hs x)
 rw [hax] at h1
 have e1:=rep_mp h1 hal
 have h2:=hop y hy _ _ _ _ (rep_aval hs y)
 rw [hay] at h2
 have e2:=rep_pr h2
 have h3:=hop v hv _ _ _ _ (rep_aval hs v)
 rw [hav] at h3
 have e3 : a.eval v = .int ik3 z:=rep_lit h3
 obtain ⟨c',cl',hrun,hsz,hok⟩:=pmPut_run (hC.pk t ik3 hpk) b1 b3 z1 z2 z
 unfold Oper.wp
 rw [hexec a.eval w _ (by rw [e1,e2,e3];exact hrun),Oper.upon_skip]
 obtain ⟨q1,q2⟩:=heap_set (o':=.map c' cl') b1
 have hro : ∀ b,g.ro b ∨ g.fr b → (w.heap.setIfInBounds (g.be k) (.map c' cl'))[b]? = w.heap[b]?:=fun b hr=>q2 b (hs.me.ne hal hz0 b hr)
 refine hK _ g _ ⟨?_,(Act.put_df _ _ _).trans hs.df,?_⟩ ⟨rfl,rfl,rfl,⟨by simp,Nat.le_refl _⟩,fun b hb=>hro b (.inl hb),fun b hb=>q2 b (fun e=>(hs.me.nof b hb).2.2 k hal hz0 e.symm)⟩ (LeG.refl base g)
 ·exact (hs.fr.same hro).put (.lit _) o.dst
 ·exact hs.me.write hal hz0 _ (by simp) (fun b hb _=>q2 b hb) ⟨hz0,c',cl',q1,by rw [hsz,b2],hok⟩
def mkMapK (C : Cfg) (base : Nat) (t : TypeId) (dst : Option Nat) (h : Option Operand) (K : Act1 → Prop) : Prop:=
 match h with
 | some _=>False
 | none=>match dst with
  | some d=>match Nat.blt (2 * d + 2) 200000 with
   | true=>match C.pk t with
    | some ik=>idK base d fun e=>K ⟨.mp e,[],[(e,some (.pm ik noF 0))],[e]⟩
    | none=>idK base d fun e=>K ⟨.mp e,[],[(e,some (.mp [] []))],[e]⟩
   | false=>False
  | none=>False
theorem mkMapK_ok {P : Program} {C : Cfg} {base : Nat} {m : Mem} {f : List AV} {o : Oper} {t : TypeId} {r : Option Operand} (ho : o.op = .makeMap t r) {K : Act1 → Prop} (h : mkMapK C base t o.dst r K) :
  ∃ c,K c ∧ (∀ p ∈ c.rd,mget m p.1 = some p.2) ∧ AOk P base o f c:=by
 unfold mkMapK at h
 cases r with
 | some _=>exact h.elim
 | none =>
 cases hd : o.dst with
 | none=>rw [hd] at h;exact h.elim
 | some d =>
  rw [hd] at h
  simp only at h
  cases hb : Nat.blt (2 * d + 2) 200000 with
  | false=>rw [hb] at h;exact h.elim
  | true =>
   rw [hb] at h
   simp only at h
   have hkl : base + 2 * d < base + L ∨ (base + 2 * d) % 2 = 1:=.inl (idlt base d hb).1
   have go : ∀ bl : Blk,(∀ (w : World) (g : G),BlkRep (w.alloc (.map #[] 0)) (g.bind (base + 2 * d) w.heap.size 1) (base + L) w.heap.size 1 bl) → K ⟨.mp (base + 2 * d),[],[(base + 2 * d,some bl)],[base + 2 * d]⟩ →
     ∃ c,K c ∧ (∀ p ∈ c.rd,mget m p.1 = some p.2) ∧ AOk P base o f c:=by
    intro bl hbl h
    refine ⟨_,h,by simp,fun f' m' hop _ w g a hs K Q hK=>?_⟩
    have hrun : (execOp a.eval o).run P w = .ok (.value (.map (some w.heap.size))) (w.alloc (.map #[] 0)):=by
     unfold execOp;rw [ho]
     simp [Instr.makeMap,newObj,Sem.run,Result.andThen]
    unfold Oper.wp
    rw [hrun,Oper.upon_value]
    have htr:=Tr.alloc g w (.map #[] 0) hs.me.rolt (fun b hb=>(hs.me.nof b hb).1)
    refine hK _ (g.bind (base + 2 * d) w.heap.size 1) _ ?_ htr (LeG.bind base g (Nat.le_add_right _ _) _ _)
    refine hs.pushO hkl (.map #[] 0) 1 bl (hbl w g) ?_ o.dst
    exact .mp _ _ hkl fun _=>by simp [G.bind]
   cases hpk : C.pk t with
   | none =>
    rw [hpk] at h
    simp only at h
    rw [idK_eq] at h
    exact go (.mp [] []) (fun w g=>⟨by omega,rfl,#[],0,heap_alloc_new w _,rfl,fun i k x hk=>by simp at hk,fun i c x hc=>by simp at hc⟩) h
   | some ik =>
    rw [hpk] at h
    simp only at h
    rw [idK_eq] at h
    exact go (.pm ik noF 0) (fun w g=>⟨by omega,#[],0,heap_alloc_new w _,rfl,⟨fun e he=>by simp at he,fun x y z hz=>by simp [noF] at hz,fun i j e f hi=>by simp at hi⟩⟩) h
def lenMK (P : Program) (m : Mem) (ats : Array TypeId) (a : AV) (K : Act1 → Prop) (J : Prop) : Prop:=
 match a with
 | .mp k=>memK m k fun b=>match b with
  | .pm ik F n=>match ats[0]? with
   | some t=>match P.underlying t with
    | some (.map _ _)=>K ⟨.lit (.int .i64 (n : Int)),[(k,.pm ik F n)],[],[]⟩
    | _=>False
   | none=>False
  | .mp ks cs=>match ats[0]? with
   | some t=>match P.underlying t with
    | some (.map _ _)=>K ⟨.lit (.int .i64 (ks.length : Int)),[(k,.mp ks cs)],[],[]⟩
    | _=>False
   | none=>False
  | _=>False
 | _=>J
theorem lenMK_ok {P : Program} {base : Nat} {m : Mem} {f : List AV} {o : Oper} {x : Operand} {ats : Array TypeId} (ho : o.op = .call { callee:=.builtin .len,args:=#[x],argTypes:=ats }) {K : Act1 → Prop} {J : Prop} (h : lenMK P m ats (aval f x) K J) :
  (∃ c,K c ∧ (∀ p ∈ c.rd,mget m p.1 = some p.2) ∧ AOk P base o f c) ∨ J:=by
 unfold lenMK at h
 split at h
 case h_2=>exact .inr h
 rename_i k hax
 left
 obtain ⟨b,hb,h⟩:=memK_ok h
 split at h
 case h_3=>exact h.elim
 case h_2 =>
  rename_i ks cs
  split at h
  case h_2=>exact h.elim
  rename_i t hat
  split at h
  case h_2=>exact h.elim
  rename_i kt et ht
  refine ⟨_,h,by simp [hb],.val fun f' m' w g a hs hop hrd=>?_⟩
  have hm : m' k = some (.mp ks cs):=hrd (k,.mp ks cs) (by simp)
  have hal : g.al k:=(hs.me.al k).2 (by simp [hm])
  obtain ⟨_,hl,c,cl,b1,b2,_,_⟩:=hs.me.blk k _ hm
  have h1:=hop x (by rw [ho];simp [Op.operands,Call.operands])
  rw [hax] at h1
  have e1:=rep_mp h1 hal
  refine ⟨_,?_,.lit _⟩
  unfold execOp;rw [ho]
  simp [resolve,invoke,builtin,Builtin.len_,e1,hat,run_underlying ht,run_getObj_map b1,b2,goInt,hl]
 rename_i ik F n
 split at h
 case h_2=>exact h.elim
 rename_i t hat
 split at h
 case h_2=>exact h.elim
 rename_i kt et ht
 refine ⟨_,h,by simp [hb],.val fun f' m' w g a hs hop hrd=>?_⟩
 have hm : m' k = some (.pm ik F n):=hrd (k,.pm ik F n) (by simp)
 have hal : g.al k:=(hs.me.al k).2 (by simp [hm])
 obtain ⟨_,c,cl,b1,b2,b3⟩:=hs.me.blk k _ hm
 have h1:=hop x (by rw [ho];simp [Op.operands,Call.operands])
 rw [hax] at h1
 have e1:=rep_mp h1 hal
 refine ⟨_,?_,.lit _⟩
 unfold execOp;rw [ho]
 simp [resolve,invoke,builtin,Builtin.len_,e1,hat,run_underlying ht,run_getObj_map b1,b2,goInt]
open Go Go.RowKit Go.MapKept
def ksB (kk : IntKind) : List Value → Bool
 | []=>true
 | v :: r=>match v with
  | .int k _=>match ikB k kk with
   | true=>ksB kk r
   | false=>false
  | _=>false
def findA (z : Int) : List Value → Option Nat
 | []=>none
 | v :: r=>match v with
  | .int _ y=>match decide (z = y) with
   | true=>some 0
   | false=>match findA z r with
    | some i=>some (i + 1)
    | none=>none
  | _=>none
def mapTy (P : Program) (t : TypeId) : Option (IntKind × TypeId × TypeId):=
 match P.underlying t with
 | some (.map kt et)=>match P.underlying kt with
  | some (.int kk)=>some (kk,kt,et)
  | _=>none
 | _=>none
theorem mapTy_ok {P : Program} {t : TypeId} {kk : IntKind} {kt et : TypeId} (h : mapTy P t = some (kk,kt,et)) : P.underlying t = some (.map kt et) ∧ P.underlying kt = some (.int kk):=by
 unfold mapTy at h
 split at h
 ·rename_i kt2 et2 h1
  split at h
  ·rename_i k2 h2
   cases h
   exact ⟨h1,h2⟩
  ·cases h
 ·cases h
theorem findA_ok {kk : IntKind} {z : Int} : ∀ {ks : List Value},ksB kk ks = true → match findA z ks with
  | some i=>ks[i]? = some (.int kk z) ∧ ∀ (j : Nat) y,j < i → ks[j]? = some (Value.int kk y) → y ≠ z
  | none=>∀ k ∈ ks,k ≠ .int kk z
 | [],_=>by intro k hk;cases hk
 | v :: r,h=>by
  unfold ksB at h
  split at h
  ·rename_i k1 y
   cases he : ikB k1 kk with
   | false=>rw [he] at h;cases h
   | true =>
    rw [he] at h
    have hk:=ikB_ok he
    subst hk
    have ih:=findA_ok (z:=z) h
    simp only [findA]
    by_cases hz : z = y
    ·subst hz
     simp only [decide_true]
     exact ⟨rfl,fun j y hj=>by omega⟩
    ·rw [decide_eq_false hz]
     simp only
     cases hf : findA z r with
     | none =>
      rw [hf] at ih
      simp only at ih ⊢
      intro k hk
      rcases List.mem_cons.1 hk with rfl|hk
      ·intro e;cases e;exact hz rfl
      ·exact ih k hk
     | some i =>
      rw [hf] at ih
      simp only at ih ⊢
      refine ⟨by simpa using ih.1,fun j y2 hj hy=>?_⟩
      cases j with
      | zero=>simp at hy;exact fun e=>hz (by rw [← e,hy])
      | succ j=>exact ih.2 j y2 (by omega) (by simpa using hy)
  ·cases h
theorem findNow_A {kk : IntKind} {z : Int} : ∀ (l : List MapEntry) (ks : List Value) (i : Nat),l.map (·.key) = ks → ksB kk ks = true →
  Instr.findNow (.int kk) (.int kk z) l i = some (match findA z ks with|some j=>(l[j]?).map fun e=>(i + j,e.val)|none=>none)
 | [],ks,i,h,_=>by subst h;rfl
 | e :: es,ks,i,h,hk=>by
  subst h
  rw [List.map_cons] at hk ⊢
  unfold ksB at hk
  split at hk
  ·rename_i k1 y heq
   cases he : ikB k1 kk with
   | false=>rw [he] at hk;cases hk
   | true =>
    rw [he] at hk
    have hkk:=ikB_ok he
    subst hkk
    simp only at hk
    have ih:=findNow_A (z:=z) es _ (i + 1) rfl hk
    simp only [findA,heq]
    unfold Instr.findNow
    simp only [Instr.sameNow,heq,if_true]
    by_cases hz : z = y
    ·subst hz
     simp
    ·have h1 : (z == y) = false:=by simpa using hz
     rw [h1,decide_eq_false hz]
     simp only
     rw [ih]
     cases hf : findA z (es.map (·.key)) with
     | none=>rfl
     | some j=>simp only [List.getElem?_cons_succ];rw [show i + 1 + j = i + (j + 1) by omega]
  ·cases hk
def zeroLit (P : Program) (t : TypeId) (K : Value → Prop) : Prop:=
 match P.info? t with
 | some i=>match i.zero with
  | some z=>K z
  | none=>False
 | none=>False
theorem zeroLit_ok {P : Program} {t : TypeId} {K : Value → Prop} (h : zeroLit P t K) : ∃ z,K z ∧ ∀ w : World,(zeroValue t).run P w = .ok z w:=by
 unfold zeroLit at h
 cases hi : P.info? t with
 | none=>rw [hi] at h;exact h.elim
 | some i =>
  rw [hi] at h
  simp only at h
  cases hz : i.zero with
  | none=>rw [hz] at h;exact h.elim
  | some z=>rw [hz] at h;exact ⟨z,h,fun w=>by simp [zeroValue,run_typeInfo hi,hz]⟩
theorem map_blk {w : World} {g : G} {lim b n : Nat} {ks : List Value} {cs : List AV} (h : BlkRep w g lim b n (.mp ks cs)) :
  0 < n ∧ ∃ (c : Array MapEntry) (clock : Nat),w.heap[b]? = some (.map c clock) ∧ c.toList.map (·.key) = ks ∧ c.size = cs.length ∧ ks.length = cs.length ∧ ∀ (i : Nat) a x,cs[i]? = some a → c[i]? = some x → Rep w g lim a x.val:=by
 obtain ⟨h0,hl,c,cl,h1,h2,h3,h4⟩:=h
 refine ⟨h0,c,cl,h1,?_,h2,hl,h4⟩
 refine List.ext_getElem? fun i=>?_
 rw [List.getElem?_map,Array.getElem?_toList]
 cases hc : c[i]? with
 | none =>
  have : ks.length ≤ i:=by have:=Array.getElem?_eq_none_iff.1 hc;omega
  rw [List.getElem?_eq_none this];rfl
 | some x =>
  have hlt : i < ks.length:=by have:=(Array.getElem?_eq_some_iff.1 hc).1;omega
  rw [List.getElem?_eq_getElem hlt,Option.map_some,h3 i ks[i] x (List.getElem?_eq_getElem hlt) hc]
def lookK (P : Program) (C : Cfg) (m : Mem) (t : TypeId) (a key : AV) (ok : Bool) (K : Act1 → Prop) : Prop:=
 match a with
 | .mp k=>memK m k fun b=>match b with
  | .mp ks cs=>match mapTy P t with
   | some (kk,_,et)=>match key with
    | .lit (.int k2 z)=>match ikB k2 kk with
     | true=>match ksB kk ks with
      | true=>match findA z ks with
       | some i=>match cs[i]? with
        | some v=>match ok with
         | true=>K ⟨.tup [v,.tt],[(k,.mp ks cs)],[],[]⟩
         | false=>K ⟨v,[(k,.mp ks cs)],[],[]⟩
        | none=>False
       | none=>zeroLit P et fun z=>match ok with
        | true=>K ⟨.tup [.lit z,.ff],[(k,.mp ks cs)],[],[]⟩
        | false=>K ⟨.lit z,[(k,.mp ks cs)],[],[]⟩
      | false=>False
     | false=>False
    | _=>False
   | none=>False
  | .pm ik F n=>pmLookK C t k ik F n key ok K
  | _=>False
 | _=>False
theorem lookK_ok {P : Program} {C : Cfg} (hC : CfgOk P C) {base : Nat} {m : Mem} {f : List AV} {o : Oper} {t : TypeId} {x y : Operand} {ok : Bool} (ho : o.op = .lookup t x y ok) {K : Act1 → Prop}
  (h : lookK P C m t (aval f x) (aval f y) ok K) : ∃ c,K c ∧ (∀ p ∈ c.rd,mget m p.1 = some p.2) ∧ AOk P base o f c:=by
 have hx : x ∈ o.op.operands.toList:=by rw [ho];simp [Op.operands]
 have hy : y ∈ o.op.operands.toList:=by rw [ho];simp [Op.operands]
 unfold lookK at h
 split at h
 case h_2=>exact h.elim
 rename_i k hax
 obtain ⟨b,hb,h⟩:=memK_ok h
 cases b with
 | box _=>exact h.elim
 | row _ _=>exact h.elim
 | pm ik F n=>exact pmLook_ok hC ho hax hb h
 | mp ks cs =>
 simp only at h
 cases hty : mapTy P t with
 | none=>rw [hty] at h;exact h.elim
 | some q =>
 obtain ⟨kk,kt,et⟩:=q
 rw [hty] at h
 obtain ⟨ht,hkt⟩:=mapTy_ok hty
 simp only at h
 split at h
 case h_2=>exact h.elim
 rename_i k2 z hay
 cases hik : ikB k2 kk with
 | false=>rw [hik] at h;exact h.elim
 | true =>
 rw [hik] at h
 have hkk:=ikB_ok hik
 subst hkk
 simp only at h
 cases hks : ksB k2 ks with
 | false=>rw [hks] at h;exact h.elim
 | true =>
 rw [hks] at h
 simp only at h
 have common : ∀ {f' : List AV} {m' : Nat → Option Blk} {w : World} {g : G} {a : Act},Sim w g (base + L) f' m' a → (∀ x ∈ o.op.operands.toList,Rep w g (base + L) (aval f x) (a.eval x)) → m' k = some (.mp ks cs) →
   ∃ (c : Array MapEntry) (clock : Nat),a.eval x = .map (some (g.be k)) ∧ a.eval y = .int k2 z ∧ w.heap[g.be k]? = some (.map c clock) ∧ c.toList.map (·.key) = ks ∧ c.size = cs.length ∧ ks.length = cs.length ∧ (∀ (i : Nat) a x,cs[i]? = some a → c[i]? = some x → Rep w g (base + L) a x.val):=by
  intro f' m' w g a hs hop hm
  have hal : g.al k:=(hs.me.al k).2 (by simp [hm])
  obtain ⟨_,c,cl,b1,b2,b3,b4,b5⟩:=map_blk (hs.me.blk k _ hm)
  have h1:=hop x hx
  rw [hax] at h1
  have h2:=hop y hy
  rw [hay] at h2
  have h3 : a.eval y = .int k2 z:=rep_lit h2
  exact ⟨c,cl,rep_mp h1 hal,h3,b1,b2,b3,b4,b5⟩
 have hkey : IsKey (.int k2) (.int k2 z):=rfl
 cases hf : findA z ks with
 | none =>
  rw [hf] at h
  simp only at h
  obtain ⟨z0,hK,hz0⟩:=zeroLit_ok h
  cases ok with
  | true =>
   refine ⟨_,hK,by simp [hb],.val fun f' m' w g a hs hop hrd=>?_⟩
   obtain ⟨c,cl,e1,e2,b1,b2,b3,b4,b5⟩:=common hs hop (hrd (k,.mp ks cs) (by simp))
   have hfn:=findNow_A (z:=z) c.toList ks 0 b2 hks
   rw [hf] at hfn
   refine ⟨.tuple #[z0,.bool false],?_,.tup _ _ rfl fun i a x ha hx=>?_⟩
   ·unfold execOp;rw [ho]
    simp [e1,e2,Instr.lookup,run_underlying ht,run_getObj_map b1,run_checkKey hkt hkey,run_findKey hkt hfn,hz0,Result.andThen]
   ·match i with
    | 0=>simp at ha hx;subst ha;subst hx;exact .lit _
    | 1=>simp at ha hx;subst ha;subst hx;exact .ff
    | i + 2=>simp at ha
  | false =>
   refine ⟨_,hK,by simp [hb],.val fun f' m' w g a hs hop hrd=>?_⟩
   obtain ⟨c,cl,e1,e2,b1,b2,b3,b4,b5⟩:=common hs hop (hrd (k,.mp ks cs) (by simp))
   have hfn:=findNow_A (z:=z) c.toList ks 0 b2 hks
   rw [hf] at hfn
   refine ⟨z0,?_,.lit _⟩
   unfold execOp;rw [ho]
   simp [e1,e2,Instr.lookup,run_underlying ht,run_getObj_map b1,run_checkKey hkt hkey,run_findKey hkt hfn,hz0,Result.andThen]
 | some i =>
  rw [hf] at h
  simp only at h
  cases hc : cs[i]? with
  | none=>rw [hc] at h;exact h.elim
  | some v =>
  rw [hc] at h
  simp only at h
  have found : ∀ {c : Array MapEntry},c.size = cs.length → ∃ e,c[i]? = some e ∧ c.toList[i]? = some e:=fun {c} hsz=>by
   have hlt : i < c.size:=by have:=(List.getElem?_eq_some_iff.1 hc).1;omega
   exact ⟨c[i],Array.getElem?_eq_getElem hlt,by rw [Array.getElem?_toList];exact Array.getElem?_eq_getElem hlt⟩
  cases ok with
  | true =>
   refine ⟨_,h,by simp [hb],.val fun f' m' w g a hs hop hrd=>?_⟩
   obtain ⟨c,cl,e1,e2,b1,b2,b3,b4,b5⟩:=common hs hop (hrd (k,.mp ks cs) (by simp))
   obtain ⟨e,q1,q2⟩:=found b3
   have hfn:=findNow_A (z:=z) c.toList ks 0 b2 hks
   rw [hf] at hfn
   simp only [q2,Option.map_some] at hfn
   refine ⟨.tuple #[e.val,.bool true],?_,.tup _ _ rfl fun i a x ha hx=>?_⟩
   ·unfold execOp;rw [ho]
    simp [e1,e2,Instr.lookup,run_underlying ht,run_getObj_map b1,run_checkKey hkt hkey,run_findKey hkt hfn,Result.andThen]
   ·match i with
    | 0=>simp at ha hx;subst ha;subst hx;exact b5 _ _ _ hc q1
    | 1=>simp at ha hx;subst ha;subst hx;exact .tt
    | i + 2=>simp at ha
  | false =>
   refine ⟨_,h,by simp [hb],.val fun f' m' w g a hs hop hrd=>?_⟩
   obtain ⟨c,cl,e1,e2,b1,b2,b3,b4,b5⟩:=common hs hop (hrd (k,.mp ks cs) (by simp))
   obtain ⟨e,q1,q2⟩:=found b3
   have hfn:=findNow_A (z:=z) c.toList ks 0 b2 hks
   rw [hf] at hfn
   simp only [q2,Option.map_some] at hfn
   refine ⟨e.val,?_,b5 _ _ _ hc q1⟩
   unfold execOp;rw [ho]
   simp [e1,e2,Instr.lookup,run_underlying ht,run_getObj_map b1,run_checkKey hkt hkey,run_findKey hkt hfn,Result.andThen]
def snoc {α : Type} : List α → α → List α
 | [],x=>[x]
 | a :: r,x=>a :: snoc r x
theorem snoc_eq {α : Type} (l : List α) (x : α) : snoc l x = l ++ [x]:=by
 induction l with
 | nil=>rfl
 | cons a r ih=>simp [snoc,ih]
def mapPutK (P : Program) (C : Cfg) (m : Mem) (t : TypeId) (a key v : AV) (K : Act1 → Prop) : Prop:=
 match a with
 | .mp k=>memK m k fun b=>match b with
  | .mp ks cs=>match mapTy P t with
   | some (kk,_,_)=>match key with
    | .lit (.int k2 z)=>match ikB k2 kk with
     | true=>match ksB kk ks with
      | true=>match findA z ks with
       | some i=>K ⟨und,[(k,.mp ks cs)],[(k,some (.mp ks (cs.set i v)))],[]⟩
       | none=>K ⟨und,[(k,.mp ks cs)],[(k,some (.mp (snoc ks (.int k2 z)) (snoc cs v)))],[]⟩
      | false=>False
     | false=>False
    | _=>False
   | none=>False
  | .pm ik F n=>pmPutK C t k ik F n key v K
  | _=>False
 | _=>False
theorem mapPut_run {P : Program} {t : TypeId} {kk : IntKind} {kt et : TypeId} (hty : mapTy P t = some (kk,kt,et)) {w : World} {b : Nat} {c : Array MapEntry} {cl : Nat} (hb : w.heap[b]? = some (.map c cl)) {ks : List Value}
  (hks : ksB kk ks = true) (hk : c.toList.map (·.key) = ks) (z : Int) (x : Value) :
  (Instr.mapUpdate t (.map (some b)) (.int kk z) x).run P w = .ok () { w with heap:=w.heap.setIfInBounds b (match findA z ks with
   | some i=>.map (c.modify i fun e=>{ e with key:=.int kk z,val:=x }) cl
   | none=>.map (c.push { key:=.int kk z,val:=x,born:=cl }) (cl + 1)) }:=by
 obtain ⟨ht,hkt⟩:=mapTy_ok hty
 have hkey : IsKey (.int kk) (.int kk z):=rfl
 have hfn:=findNow_A (z:=z) c.toList ks 0 hk hks
 have hfa:=findA_ok (z:=z) hks
 cases hf : findA z ks with
 | none =>
  rw [hf] at hfn
  simp [Instr.mapUpdate,run_underlying ht,run_getObj_map hb,run_checkKey hkt hkey,run_findKey hkt hfn,run_setObj_map _ hb,Result.andThen]
 | some i =>
  rw [hf] at hfn hfa
  simp only at hfa
  have hlt : i < c.size:=by
   have h1:=(List.getElem?_eq_some_iff.1 hfa.1).1
   rw [← hk,List.length_map,Array.length_toList] at h1;exact h1
  have hci : c.toList[i]? = some c[i]:=by rw [Array.getElem?_toList];exact Array.getElem?_eq_getElem hlt
  have hkey2 : c[i].key = .int kk z:=by
   have h1:=hfa.1
   rw [← hk,List.getElem?_map,hci] at h1
   simpa using h1
  simp only [hci,Option.map_some] at hfn
  have hst:=run_keyThatStays (P:=P) (w:=w) hkey
  simp [Instr.mapUpdate,run_underlying ht,run_getObj_map hb,run_checkKey hkt hkey,run_findKey hkt hfn,run_setObj_map _ hb,Result.andThen,Array.getElem?_eq_getElem hlt,hkey2,hst]
theorem mapPutK_ok {P : Program} {C : Cfg} (hC : CfgOk P C) {base : Nat} {m : Mem} {f : List AV} {o : Oper} {t : TypeId} {x y v : Operand} (ho : o.op = .mapUpdate t x y v ∨ o.op = .insert t x y v) {K : Act1 → Prop}
  (h : mapPutK P C m t (aval f x) (aval f y) (aval f v) K) : ∃ c,K c ∧ (∀ p ∈ c.rd,mget m p.1 = some p.2) ∧ AOk P base o f c:=by
 have hops : x ∈ o.op.operands.toList ∧ y ∈ o.op.operands.toList ∧ v ∈ o.op.operands.toList:=by rcases ho with ho|ho<;>(rw [ho];simp [Op.operands])
 obtain ⟨hx,hy,hv⟩:=hops
 have hexec : ∀ (ρ : Operand → Value) (w w' : World),(Instr.mapUpdate t (ρ x) (ρ y) (ρ v)).run P w = .ok () w' → (execOp ρ o).run P w = .ok .skip w':=fun ρ w w' h=>by
  rcases ho with ho|ho<;>(unfold execOp;rw [ho];simp [h])
 unfold mapPutK at h
 split at h
 case h_2=>exact h.elim
 rename_i k hax
 obtain ⟨b,hb,h⟩:=memK_ok h
 cases b with
 | box _=>exact h.elim
 | row _ _=>exact h.elim
 | pm ik F n=>exact pmPut_ok hC ho hax hb h
 | mp ks cs =>
 simp only at h
 cases hty : mapTy P t with
 | none=>rw [hty] at h;exact h.elim
 | some q =>
 obtain ⟨kk,kt,et⟩:=q
 rw [hty] at h
 simp only at h
 split at h
 case h_2=>exact h.elim
 rename_i k2 z hay
 cases hik : ikB k2 kk with
 | false=>rw [hik] at h;exact h.elim
 | true =>
 rw [hik] at h
 have hkk:=ikB_ok hik
 subst hkk
 simp only at h
 cases hks : ksB k2 ks with
 | false=>rw [hks] at h;exact h.elim
 | true =>
 rw [hks] at h
 simp only at h
 have hfa:=findA_ok (z:=z) hks
 -- what the step does, whichever block is left
 have step : ∀ (bl : Blk) (F : Array MapEntry → Nat → Value → Obj),
   (∀ (c : Array MapEntry) (cl : Nat) (x : Value),(match findA z ks with
    | some i=>Obj.map (c.modify i fun e=>{ e with key:=.int k2 z,val:=x }) cl
    | none=>Obj.map (c.push { key:=.int k2 z,val:=x,born:=cl }) (cl + 1)) = F c cl x) →
   (∀ (w w' : World) (g : G) (lim b n : Nat) (c : Array MapEntry) (cl : Nat) (y : Value),0 < n → c.toList.map (·.key) = ks → c.size = cs.length → ks.length = cs.length → Keeps w w' g g →
    (∀ (i : Nat) a x,cs[i]? = some a → c[i]? = some x → Rep w g lim a x.val) → Rep w g lim (aval f v) y → w'.heap[b]? = some (F c cl y) → BlkRep w' g lim b n bl) →
   AOk P base o f ⟨und,[(k,.mp ks cs)],[(k,some bl)],[]⟩:=by
  intro bl F hF hbl f' m' hop hrd w g a hs K Q hK
  have hm : m' k = some (.mp ks cs):=hrd (k,.mp ks cs) (by simp)
  have hal : g.al k:=(hs.me.al k).2 (by simp [hm])
  obtain ⟨hz0,c,cl,b1,b2,b3,b4,b5⟩:=map_blk (hs.me.blk k _ hm)
  have h1:=hop x hx _ _ _ _ (rep_aval hs x)
  rw [hax] at h1
  have e1:=rep_mp h1 hal
  have h2:=hop y hy _ _ _ _ (rep_aval hs y)
  rw [hay] at h2
  have e2 : a.eval y = .int k2 z:=rep_lit h2
  have h3:=hop v hv _ _ _ _ (rep_aval hs v)
  have hrun:=mapPut_run hty b1 hks b2 z (a.eval v)
  rw [hF] at hrun
  unfold Oper.wp
  rw [hexec a.eval w _ (by rw [e1,e2];exact hrun),Oper.upon_skip]
  obtain ⟨q1,q2⟩:=heap_set (o':=F c cl (a.eval v)) b1
  have hro : ∀ b,g.ro b ∨ g.fr b → (w.heap.setIfInBounds (g.be k) (F c cl (a.eval v)))[b]? = w.heap[b]?:=fun b hr=>q2 b (hs.me.ne hal hz0 b hr)
  refine hK _ g _ ⟨?_,(Act.put_df _ _ _).trans hs.df,?_⟩ ⟨rfl,rfl,rfl,⟨by simp,Nat.le_refl _⟩,fun b hb=>hro b (.inl hb),fun b hb=>q2 b (fun e=>(hs.me.nof b hb).2.2 k hal hz0 e.symm)⟩ (LeG.refl base g)
  ·exact (hs.fr.same hro).put (.lit _) o.dst
  ·refine hs.me.write hal hz0 bl (by simp) (fun b hb _=>q2 b hb) ?_
   exact hbl w _ g _ _ _ c cl _ hz0 b2 b3 b4 (Keeps.ofS hro) b5 h3 q1
 have keep : ∀ {w w' : World} {g : G} {lim : Nat} {a : AV} {x : Value},Keeps w w' g g → Rep w g lim a x → Rep w' g lim a x:=fun hk h=>h.mono hk (Nat.le_refl _) fun _ _ ha=>⟨ha,rfl,rfl⟩
 cases hf : findA z ks with
 | none =>
  rw [hf] at h hfa
  simp only at h
  refine ⟨_,h,by simp [hb],step _ (fun c cl x=>.map (c.push { key:=.int k2 z,val:=x,born:=cl }) (cl + 1)) (fun c cl x=>by rw [hf]) ?_⟩
  intro w w' g lim b n c cl y h0 hk hsz hl hkp hr hv hh
  refine ⟨h0,by rw [snoc_eq,snoc_eq];simp [hl],_,_,hh,by rw [snoc_eq];simp [hsz],fun i k x hik hix=>?_,fun i a x hia hix=>?_⟩
  ·rw [snoc_eq] at hik
   rw [Array.getElem?_push] at hix
   have hln : ks.length = c.size:=by omega
   by_cases hi : i = c.size
   ·rw [if_pos hi] at hix
    cases hix
    rw [hi,← hln,List.getElem?_append_right (Nat.le_refl _),Nat.sub_self] at hik
    simpa using hik
   ·rw [if_neg hi] at hix
    have hlt:=(Array.getElem?_eq_some_iff.1 hix).1
    rw [List.getElem?_append_left (by omega),← hk,List.getElem?_map,Array.getElem?_toList,hix] at hik
    simpa using hik
  ·rw [snoc_eq] at hia
   rw [Array.getElem?_push] at hix
   by_cases hi : i = c.size
   ·rw [if_pos hi] at hix
    cases hix
    rw [hi,hsz,List.getElem?_append_right (Nat.le_refl _),Nat.sub_self] at hia
    simp at hia
    subst hia
    exact keep hkp hv
   ·rw [if_neg hi] at hix
    have hlt:=(Array.getElem?_eq_some_iff.1 hix).1
    rw [List.getElem?_append_left (by omega)] at hia
    exact keep hkp (hr i a x hia hix)
 | some j =>
  rw [hf] at h hfa
  simp only at h hfa
  refine ⟨_,h,by simp [hb],step _ (fun c cl x=>.map (c.modify j fun e=>{ e with key:=.int k2 z,val:=x }) cl) (fun c cl x=>by rw [hf]) ?_⟩
  intro w w' g lim b n c cl y h0 hk hsz hl hkp hr hv hh
  refine ⟨h0,by simp [hl],_,_,hh,by simp [hsz],fun i k x hik hix=>?_,fun i a x hia hix=>?_⟩
  ·rw [Array.getElem?_modify] at hix
   by_cases hi : j = i
   ·subst hi
    rw [if_pos rfl] at hix
    cases hc : c[j]? with
    | none=>rw [hc] at hix;cases hix
    | some e =>
     rw [hc] at hix
     simp at hix
     subst hix
     rw [hfa.1] at hik
     simpa using hik
   ·rw [if_neg hi] at hix
    rw [← hk,List.getElem?_map,Array.getElem?_toList,hix] at hik
    simpa using hik
  ·rw [Array.getElem?_modify] at hix
   by_cases hi : j = i
   ·subst hi
    rw [if_pos rfl] at hix
    cases hc : c[j]? with
    | none=>rw [hc] at hix;cases hix
    | some e =>
     rw [hc] at hix
     simp at hix
     subst hix
     have hlt : j < cs.length:=by have:=(Array.getElem?_eq_some_iff.1 hc).1;omega
     rw [List.getElem?_set_self hlt] at hia
     simp at hia
     subst hia
     exact keep hkp hv
   ·rw [if_neg hi] at hix
    rw [List.getElem?_set_ne hi] at hia
    exact keep hkp (hr i a x hia hix)
open Go Go.RowKit
def numsOf (s : ByteArray) : List Int:=s.data.toList.map fun b=>(b.toNat : Int)
def G.more (g : G) (n : Nat) : G:={ ro:=fun b=>g.ro b ∨ b = n,no:=g.no,al:=g.al,be:=g.be,sz:=g.sz,fr:=g.fr,jd:=g.jd,fn:=g.fn }
def isBytK (P : Program) (src dst : TypeId) : Bool:=match P.underlying src with
 | some .string=>match P.underlying dst with
  | some (.slice _)=>true
  | _=>false
 | _=>false
def toBytK (P : Program) (src dst : TypeId) (v : AV) (K : Act1 → Prop) : Prop:=
 match v with
 | .lit (.string s)=>match P.underlying src with
  | some .string=>match P.underlying dst with
   | some (.slice e)=>match P.underlying e with
    | some (.int .u8)=>K ⟨.vec .u8 (numsOf s),[],[],[]⟩
    | _=>False
   | _=>False
  | _=>False
 | _=>False
theorem numsOf_len (s : ByteArray) : (numsOf s).length = s.size:=by
 unfold numsOf
 rw [List.length_map,Array.length_toList];rfl
theorem toBytK_ok {P : Program} {base : Nat} {m : Mem} {f : List AV} {o : Oper} {src dst : TypeId} {x : Operand} (ho : o.op = .convert src dst x) {K : Act1 → Prop} (h : toBytK P src dst (aval f x) K) :
  ∃ c,K c ∧ (∀ p ∈ c.rd,mget m p.1 = some p.2) ∧ AOk P base o f c:=by
 unfold toBytK at h
 split at h
 case h_2=>exact h.elim
 rename_i s hv
 split at h
 case h_2=>exact h.elim
 rename_i hs
 split at h
 case h_2=>exact h.elim
 rename_i e hd
 split at h
 case h_2=>exact h.elim
 rename_i he
 refine ⟨_,h,fun p hp=>(by cases hp),fun f' m' hop hrd w g a hsim N Q hN=>?_⟩
 have hx : a.eval x = .string s:=by
  have h1:=hop x (by rw [ho];simp [Op.operands]) _ _ _ _ (rep_aval hsim x)
  rw [hv] at h1
  exact rep_lit h1
 have hrun : (execOp a.eval o).run P w = .ok (.value (.slice (some ⟨w.heap.size,0,none⟩) s.size (grownCap w s.size 0 e))) (Lib.bytesWorld w e s):=by
  unfold execOp;rw [ho];simp [hx,Lib.run_convert_string_bytes w src dst e s hs hd he]
 have hm:=hsim.me
 have hold : ∀ b,b < w.heap.size → (Lib.bytesWorld w e s).heap[b]? = w.heap[b]?:=Lib.bytesWorld_at_old w e s
 have hkeep : Keeps w (Lib.bytesWorld w e s) g (g.more w.heap.size):=⟨fun b hb=>.inl hb,fun b hb=>hold b (hm.rolt b hb),.of fun b hb=>hold b (hm.fj.lt (.inl hb))⟩
 have hbe : ∀ k b,m' k = some b → 0 < g.sz k → g.be k < w.heap.size:=fun k b hb hz=>(hm.blk k b hb).in hz
 have hsz:=Lib.bytesWorld_size w e s
 have hme : MSim (Lib.bytesWorld w e s) (g.more w.heap.size) (base + L) m':=by
  refine ⟨hm.al,hm.lt,fun k hk hz hro=>?_,hm.inj,fun k b hb=>?_,fun b hb=>?_,fun b hb=>?_,hm.fj.step (fun b hb=>hold b (hm.fj.lt hb)) (fun b hb=>⟨fun hro=>?_,(hm.fj.nro b hb).2⟩) hm.fj.nal⟩
  ·obtain ⟨bl,hbl⟩:=Option.isSome_iff_exists.1 ((hm.al k).1 hk)
   have h1:=hbe k bl hbl hz
   rcases hro with hro|hro
   ·exact hm.nro k hk hz hro
   ·have h2 : g.be k = w.heap.size:=hro
    omega
  ·exact (hm.blk k b hb).mono' hkeep (Nat.le_refl _) (fun hz=>hold _ (hbe k b hb hz)) fun _ _ _ ha=>⟨ha,rfl,rfl⟩
  ·rw [hsz]
   rcases hb with hb|hb
   ·have:=hm.rolt b hb;omega
   ·omega
  ·obtain ⟨h1,h2,h3⟩:=hm.nof b hb
   refine ⟨by rw [hsz];omega,fun hro=>?_,h3⟩
   rcases hro with hro|hro
   ·exact h2 hro
   ·omega
  ·have h1:=hm.fj.lt hb
   rcases hro with hro|hro
   ·exact (hm.fj.nro b hb).1 hro
   ·omega
 have hsim2 : Sim (Lib.bytesWorld w e s) (g.more w.heap.size) (base + L) f' m' a:=⟨hsim.fr.mono hkeep (Nat.le_refl _) fun _ _ ha=>⟨ha,rfl,rfl⟩,hsim.df,hme⟩
 have hvec : Rep (Lib.bytesWorld w e s) (g.more w.heap.size) (base + L) (.vec .u8 (numsOf s)) (.slice (some ⟨w.heap.size,0,none⟩) s.size (grownCap w s.size 0 e)):=by
  have hget : ∀ (i : Nat) c,(flat .u8 (numsOf s))[i]? = some c → i < s.size ∧ c = .lit (.int .u8 (s.data.toList.getD i 0).toNat):=fun i c hi=>by
   rw [flat_u8,List.getElem?_map] at hi
   have hil : i < (numsOf s).length:=by
    rcases Nat.lt_or_ge i (numsOf s).length with h|h
    ·exact h
    ·rw [List.getElem?_eq_none h] at hi;cases hi
   have hi2 : i < s.data.toList.length:=by unfold numsOf at hil;simpa using hil
   refine ⟨by rw [numsOf_len] at hil;exact hil,?_⟩
   unfold numsOf at hi
   rw [List.getElem?_map,List.getElem?_eq_getElem hi2] at hi
   simp only [Option.map_some,Option.some.injEq] at hi
   rw [← hi,List.getD_eq_getElem?_getD,List.getElem?_eq_getElem hi2]
   rfl
  have:=Rep.vec (w:=Lib.bytesWorld w e s) (g:=g.more w.heap.size) (lim:=base + L) .u8 (numsOf s) w.heap.size 0 (grownCap w s.size 0 e) (fun i=>.int .u8 (s.data.toList.getD i 0).toNat) (by rw [numsOf_len];exact grownCap_ge w _ _ _) (.inr rfl)
   (fun i c hi=>by
    obtain ⟨h1,h2⟩:=hget i c hi
    rw [Nat.zero_add]
    exact Lib.bytesWorld_cell w e s i h1)
   (fun i c hi=>by
    obtain ⟨h1,h2⟩:=hget i c hi
    rw [h2]
    exact .lit _)
  rwa [numsOf_len] at this
 unfold Oper.wp
 rw [hrun,Oper.upon_value]
 refine hN _ (g.more w.heap.size) _ (hsim2.put hvec o.dst) ⟨?_,?_,?_,⟨by rw [hsz];omega,?_⟩,fun b hb=>hold b (hm.rolt b hb),fun b hb=>hold b (hm.nof b hb).1⟩ ⟨fun b hb=>.inl hb,fun b hb=>hb,fun _ _ ha=>⟨ha,rfl,rfl⟩⟩
 all_goals simp [Lib.bytesWorld,World.freeze,World.alloc,World.drew,-World.alloc_eq,-World.drew_eq]
open Go Go.RowKit
def isArrK (P : Program) (t : TypeId) : Bool:=match P.underlying t with|some (.array _ _)=>true|_=>false
def isIntK (P : Program) (ats : List TypeId) : Bool:=match ats with
 | [_,tx]=>match P.underlying tx with
  | some (.int _)=>true
  | _=>false
 | _=>false
theorem isIntK_ok {P : Program} {ats : Array TypeId} (h : isIntK P ats.toList = true) : ∃ tx k,ats[1]? = some tx ∧ P.underlying tx = some (.int k):=by
 unfold isIntK at h
 split at h
 ·rename_i t tx hats
  split at h
  ·rename_i k hk
   exact ⟨tx,k,by rw [← Array.toArray_toList (xs:=ats),hats];rfl,hk⟩
  ·cases h
 ·cases h
def builtinK2 (P : Program) (C : Cfg) (base : Nat) (m : Mem) (dst : Option Nat) (b : Builtin) (ats : Array TypeId) (args : List Operand) (f : List AV) (K : Act1 → Prop) : Prop:=
 match b with
 | .append=>match args with
  | [x,y]=>avalK f x fun a=>avalK f y fun b=>match isIntK P ats.toList with
   | true=>zerosK P C base m dst ats.toList a b K
   | false=>appendK P C base m dst ats.toList a b K
  | _=>False
 | .copy=>match args with
  | [x,y]=>avalK f x fun a=>avalK f y fun b=>copyK P C m ats.toList a b K
  | _=>False
 | .clear=>match args with
  | [x]=>avalK f x fun a=>clearK P C m ats.toList a K
  | _=>False
 | .cap=>match args with
  | [x]=>match ats.toList with
   | [t]=>avalK f x fun a=>capK P t a fun v=>K (vA v)
   | _=>False
  | _=>False
 | .len=>match args with
  | [x]=>avalK f x fun a=>lenMK P m ats a K (builtinK P .len ats [x] f K)
  | _=>False
 | b=>builtinK P b ats args f K
def opA (P : Program) (C : Cfg) (base : Nat) (f : List AV) (m : Mem) (o : Oper) (K : Act1 → Prop) : Prop:=
 match o.op with
 | .move x=>avalK f x fun v=>K (vA v)
 | .assign x=>avalK f x fun v=>K (vA v)
 | .pick c a b=>avalK f c fun c=>avalK f a fun a=>avalK f b fun b=>pickK c a b fun v=>K (vA v)
 | .alloc t=>allocK P base o.dst t K
 | .box _ x=>avalK f x fun v=>cellsK v fun cs=>boxK base o.dst cs K
 | .load t x=>avalK f x fun v=>loadK P m t v K
 | .store t x y=>avalK f x fun a=>avalK f y fun v=>storeFK P m t a v K
 | .binOp op t x y _=>avalK f x fun a=>avalK f y fun b=>binK P C op t a b fun v=>K (vA v)
 | .unOp op _ x=>avalK f x fun a=>unK op a fun v=>K (vA v)
 | .convert s d x=>avalK f x fun a=>match isStrK P s d with
  | true=>toStrK P m s d a K
  | false=>match isBytK P s d with
   | true=>toBytK P s d a K
   | false=>convK P s d a fun v=>K (vA v)
 | .makeFunc fn fs cs=>avalsK f fs.toList fun fs=>avalsK f cs.toList fun cs=>K (vA (.clo fn fs cs))
 | .fieldAddr t x i=>avalK f x fun a=>faK P t a i fun v=>K (vA v)
 | .field t x i=>avalK f x fun a=>fieldK P t a i fun v=>K (vA v)
 | .indexAddr t x i=>avalK f x fun a=>avalK f i fun i=>ixK P t a i fun v=>K (vA v)
 | .extract x i=>avalK f x fun a=>extrK a i fun v=>K (vA v)
 | .nilCheck x=>avalK f x fun a=>ncK a fun v=>K (vA v)
 | .call { callee:=.builtin b,args:=args,argTypes:=ats }=>builtinK2 P C base m o.dst b ats args.toList f K
 | .build t ps=>buildK P f t ps.toList fun v=>K (vA v)
 | .makeSlice t x y=>avalK f x fun a=>avalK f y fun b=>makeK P C base o.dst t a b K
 | .slice t x l h mx=>avalK f x fun a=>match isArrK P t with
  | true=>arrK2 P C m t a f l h mx K
  | false=>sliceK2 P t a f l h mx fun v=>K (vA v)
 | .buildSlice t n ps=>litK P C base m f o.dst t n ps.toList K
 | .index t x i=>avalK f x fun a=>avalK f i fun i=>idxAK P t a i fun v=>K (vA v)
 | .makeMap t r=>mkMapK C base t o.dst r K
 | .lookup t x i ok=>avalK f x fun a=>avalK f i fun i=>lookK P C m t a i ok K
 | .mapUpdate t x i v=>avalK f x fun a=>avalK f i fun i=>avalK f v fun v=>mapPutK P C m t a i v K
 | .insert t x i v=>avalK f x fun a=>avalK f i fun i=>avalK f v fun v=>mapPutK P C m t a i v K
 | _=>False
theorem pureOf {P : Program} {base : Nat} {m : Mem} {f : List AV} {o : Oper} {v : AV} {K : Act1 → Prop} (hK : K (vA v))
  (h : ∀ (w : World) (g : G) (a : Act),(∀ x ∈ o.op.operands.toList,Rep w g (base + L) (aval f x) (a.eval x)) → ∃ x,(execOp a.eval o).run P w = .ok (.value x) w ∧ Rep w g (base + L) v x) :
  ∃ c,K c ∧ (∀ p ∈ c.rd,mget m p.1 = some p.2) ∧ AOk P base o f c:=
 pure_ok hK fun w g a _ hop=>h w g a hop
theorem opA_ok {P : Program} {C : Cfg} (hC : CfgOk P C) {base : Nat} {f : List AV} {m : Mem} {o : Oper} {K : Act1 → Prop} (h : opA P C base f m o K) :
  ∃ c,K c ∧ (∀ p ∈ c.rd,mget m p.1 = some p.2) ∧ AOk P base o f c:=by
 unfold opA at h
 split at h
 case h_1 x ho =>
  rw [avalK_eq] at h
  refine pureOf h fun w g a hop=>⟨_,?_,hop x (by rw [ho];simp [Op.operands])⟩
  unfold execOp;rw [ho];rfl
 case h_2 x ho =>
  rw [avalK_eq] at h
  refine pureOf h fun w g a hop=>⟨_,?_,hop x (by rw [ho];simp [Op.operands])⟩
  unfold execOp;rw [ho];rfl
 case h_3 c x y ho =>
  rw [avalK_eq,avalK_eq,avalK_eq] at h
  obtain ⟨v,hK,hv⟩:=pickK_ok h
  refine pureOf hK fun w g a hop=>?_
  obtain ⟨p,e1,e2⟩:=hv w g (base + L) _ _ _ (hop c (by rw [ho];simp [Op.operands])) (hop x (by rw [ho];simp [Op.operands])) (hop y (by rw [ho];simp [Op.operands]))
  refine ⟨_,?_,e2⟩
  unfold execOp;rw [ho];simp [e1,asBool]
 case h_4 t ho=>exact allocK_ok ho h
 case h_5 t x ho=>rw [avalK_eq] at h;exact boxOp_ok ho h
 case h_6 t x ho=>rw [avalK_eq] at h;exact loadK_ok ho h
 case h_7 t x y ho=>rw [avalK_eq,avalK_eq] at h;exact storeFK_ok ho h
 case h_8 op t x y t2 ho =>
  rw [avalK_eq,avalK_eq] at h
  obtain ⟨v,hK,hv⟩:=binK_ok hC h
  refine pureOf hK fun w g a hop=>?_
  obtain ⟨r,e1,e2,e3⟩:=hv w g (base + L) _ _ x y (hop x (by rw [ho];simp [Op.operands])) (hop y (by rw [ho];simp [Op.operands]))
  refine ⟨r,?_,e3⟩
  unfold execOp;rw [ho];simp [e1,e2]
 case h_9 op t x ho =>
  rw [avalK_eq] at h
  obtain ⟨v,hK,hv⟩:=unK_ok (P:=P) h
  refine pureOf hK fun w g a hop=>?_
  obtain ⟨r,e1,e2⟩:=hv w g (base + L) _ (hop x (by rw [ho];simp [Op.operands]))
  refine ⟨r,?_,e2⟩
  unfold execOp;rw [ho];simp [e1]
 case h_10 s d x ho =>
  rw [avalK_eq] at h
  cases his : isStrK P s d with
  | true=>rw [his] at h;exact toStrK_ok ho h
  | false =>
  rw [his] at h
  cases hib : isBytK P s d with
  | true=>rw [hib] at h;exact toBytK_ok ho h
  | false =>
  rw [hib] at h
  obtain ⟨v,hK,hv⟩:=convK_ok h
  refine pureOf hK fun w g a hop=>?_
  obtain ⟨r,e1,e2⟩:=hv w g (base + L) _ (hop x (by rw [ho];simp [Op.operands]))
  refine ⟨r,?_,e2⟩
  unfold execOp;rw [ho];simp [e1]
 case h_11 fn fs cs ho =>
  rw [avalsK_eq,avalsK_eq] at h
  refine pureOf h fun w g a hop=>⟨.func fn (fs.map a.eval) (cs.map a.eval),?_,?_⟩
  ·unfold execOp;rw [ho];simp [Instr.makeFunc]
  ·refine .clo _ _ _ _ _ (by simp) (fun i c x hc hx=>?_) (by simp) (fun i c x hc hx=>?_)
   ·rw [List.getElem?_map] at hc
    rw [Array.getElem?_map] at hx
    cases hi : fs.toList[i]? with
    | none=>rw [hi] at hc;cases hc
    | some z =>
     rw [hi] at hc
     have hi' : fs[i]? = some z:=by simpa using hi
     rw [hi'] at hx
     simp at hc hx;subst hc;subst hx
     exact hop z (by rw [ho];simp [Op.operands];exact .inl (Array.mem_of_getElem? hi'))
   ·rw [List.getElem?_map] at hc
    rw [Array.getElem?_map] at hx
    cases hi : cs.toList[i]? with
    | none=>rw [hi] at hc;cases hc
    | some z =>
     rw [hi] at hc
     have hi' : cs[i]? = some z:=by simpa using hi
     rw [hi'] at hx
     simp at hc hx;subst hc;subst hx
     exact hop z (by rw [ho];simp [Op.operands];exact .inr (Array.mem_of_getElem? hi'))
 case h_12 t x i ho =>
  rw [avalK_eq] at h
  obtain ⟨v,hK,hv⟩:=faK_ok h
  refine pureOf hK fun w g a hop=>?_
  obtain ⟨r,e1,e2⟩:=hv w g (base + L) _ (hop x (by rw [ho];simp [Op.operands]))
  refine ⟨r,?_,e2⟩
  unfold execOp;rw [ho];simp [e1]
 case h_13 t x i ho =>
  rw [avalK_eq] at h
  obtain ⟨v,hK,hv⟩:=fieldK_ok h
  refine pureOf hK fun w g a hop=>?_
  obtain ⟨r,e1,e2⟩:=hv w g (base + L) _ (hop x (by rw [ho];simp [Op.operands]))
  refine ⟨r,?_,e2⟩
  unfold execOp;rw [ho];simp [e1]
 case h_14 t x i ho =>
  rw [avalK_eq,avalK_eq] at h
  obtain ⟨v,hK,hv⟩:=ixK_ok h
  refine pureOf hK fun w g a hop=>?_
  obtain ⟨r,e1,e2⟩:=hv w g (base + L) _ _ (hop x (by rw [ho];simp [Op.operands])) (hop i (by rw [ho];simp [Op.operands]))
  refine ⟨r,?_,e2⟩
  unfold execOp;rw [ho];simp [e1]
 case h_15 x i ho =>
  rw [avalK_eq] at h
  obtain ⟨v,hK,hv⟩:=extrK_ok (P:=P) h
  refine pureOf hK fun w g a hop=>?_
  obtain ⟨r,e1,e2⟩:=hv w g (base + L) _ (hop x (by rw [ho];simp [Op.operands]))
  refine ⟨r,?_,e2⟩
  unfold execOp;rw [ho];simp [e1]
 case h_16 x ho =>
  rw [avalK_eq] at h
  obtain ⟨hK,hv⟩:=ncK_ok (P:=P) ho h
  refine pureOf hK fun w g a hop=>?_
  have hr:=hop x (by rw [ho];simp [Op.operands])
  exact ⟨_,hv w g (base + L) a.eval hr,hr⟩
 case h_17 b args ats ho =>
  unfold builtinK2 at h
  split at h
  case h_1 =>
   split at h
   case h_2=>exact h.elim
   rename_i x y hargs
   have hargs' : args = #[x,y]:=by rw [← Array.toArray_toList (xs:=args),hargs]
   subst hargs'
   simp only [avalK_eq] at h
   cases hi : isIntK P ats.toList with
   | true=>rw [hi] at h;exact zerosK_ok hC ho (isIntK_ok hi) h
   | false=>rw [hi] at h;exact appendK_ok hC ho h
  case h_2 =>
   split at h
   case h_2=>exact h.elim
   rename_i x y hargs
   have hargs' : args = #[x,y]:=by rw [← Array.toArray_toList (xs:=args),hargs]
   subst hargs'
   simp only [avalK_eq] at h
   exact copyK_ok hC ho h
  case h_3 =>
   split at h
   case h_2=>exact h.elim
   rename_i x hargs
   have hargs' : args = #[x]:=by rw [← Array.toArray_toList (xs:=args),hargs]
   subst hargs'
   simp only [avalK_eq] at h
   exact clearK_ok hC ho h
  case h_4 =>
   split at h
   case h_2=>exact h.elim
   rename_i x hargs
   have hargs' : args = #[x]:=by rw [← Array.toArray_toList (xs:=args),hargs]
   subst hargs'
   split at h
   case h_2=>exact h.elim
   rename_i t hats
   have hats' : ats = #[t]:=by rw [← Array.toArray_toList (xs:=ats),hats]
   subst hats'
   simp only [avalK_eq] at h
   obtain ⟨v,hK,hv⟩:=capK_ok (ty:=o.type) h
   refine pureOf hK fun w g a hop=>?_
   obtain ⟨r,e1,e2⟩:=hv w g (base + L) _ (hop x (by rw [ho];simp [Op.operands,Call.operands]))
   refine ⟨r,?_,e2⟩
   unfold execOp;rw [ho];simp [resolve,invoke,builtin,e1]
  case h_5 =>
   split at h
   case h_2=>exact h.elim
   rename_i x hargs
   have hargs' : args = #[x]:=by rw [← Array.toArray_toList (xs:=args),hargs]
   subst hargs'
   rw [avalK_eq] at h
   rcases lenMK_ok ho h with h|h
   ·exact h
   ·unfold builtinK at h
    simp only at h
    cases hat : ats[0]? with
    | none=>rw [hat] at h;exact h.elim
    | some t =>
     rw [hat] at h
     simp only [avalK_eq] at h
     obtain ⟨v,hK,hv⟩:=lenK_ok (ty:=o.type) hat h
     refine pureOf hK fun w g a hop=>?_
     obtain ⟨r,e1,e2⟩:=hv w g (base + L) (a.eval x) #[a.eval x] (by simp) (hop x (by rw [ho];simp [Op.operands,Call.operands]))
     refine ⟨r,?_,e2⟩
     unfold execOp;rw [ho];simp [resolve,invoke,builtin,e1]
  unfold builtinK at h
  split at h
  case h_1 =>
   split at h
   case h_2=>exact h.elim
   rename_i x hargs
   have hargs' : args = #[x]:=by rw [← Array.toArray_toList (xs:=args),hargs]
   subst hargs'
   cases hat : ats[0]? with
   | none=>rw [hat] at h;exact h.elim
   | some t =>
    rw [hat] at h
    simp only [avalK_eq] at h
    obtain ⟨v,hK,hv⟩:=lenK_ok (ty:=o.type) hat h
    refine pureOf hK fun w g a hop=>?_
    obtain ⟨r,e1,e2⟩:=hv w g (base + L) (a.eval x) #[a.eval x] (by simp) (hop x (by rw [ho];simp [Op.operands,Call.operands]))
    refine ⟨r,?_,e2⟩
    unfold execOp;rw [ho];simp [resolve,invoke,builtin,e1]
  case h_2 =>
   split at h
   case h_2=>exact h.elim
   rename_i x y hargs
   have hargs' : args = #[x,y]:=by rw [← Array.toArray_toList (xs:=args),hargs]
   subst hargs'
   simp only [avalK_eq] at h
   obtain ⟨v,hK,hv⟩:=mmK_ok (P:=P) h
   refine pureOf hK fun w g a hop=>?_
   obtain ⟨r,e1,e2⟩:=hv w g (base + L) _ _ (hop x (by rw [ho];simp [Op.operands,Call.operands])) (hop y (by rw [ho];simp [Op.operands,Call.operands]))
   refine ⟨r,?_,e2⟩
   unfold execOp;rw [ho];simp only at e1;simp [resolve,invoke,builtin,Builtin.min_,e1]
  case h_3 =>
   split at h
   case h_1 x y hargs =>
    have hargs' : args = #[x,y]:=by rw [← Array.toArray_toList (xs:=args),hargs]
    subst hargs'
    simp only [avalK_eq] at h
    obtain ⟨v,hK,hv⟩:=mmK_ok (P:=P) h
    refine pureOf hK fun w g a hop=>?_
    obtain ⟨r,e1,e2⟩:=hv w g (base + L) _ _ (hop x (by rw [ho];simp [Op.operands,Call.operands])) (hop y (by rw [ho];simp [Op.operands,Call.operands]))
    refine ⟨r,?_,e2⟩
    unfold execOp;rw [ho];simp only at e1;simp [resolve,invoke,builtin,Builtin.max_,e1]
   case h_2 x y z hargs =>
    have hargs' : args = #[x,y,z]:=by rw [← Array.toArray_toList (xs:=args),hargs]
    subst hargs'
    simp only [avalK_eq] at h
    obtain ⟨v1,h1,hv1⟩:=mmK_ok (P:=P) h
    obtain ⟨v,hK,hv⟩:=mmK_ok (P:=P) h1
    refine pureOf hK fun w g a hop=>?_
    obtain ⟨r1,e1,f1⟩:=hv1 w g (base + L) _ _ (hop x (by rw [ho];simp [Op.operands,Call.operands])) (hop y (by rw [ho];simp [Op.operands,Call.operands]))
    obtain ⟨r,e2,f2⟩:=hv w g (base + L) _ _ f1 (hop z (by rw [ho];simp [Op.operands,Call.operands]))
    refine ⟨r,?_,f2⟩
    unfold execOp;rw [ho];simp only at e1 e2;simp [resolve,invoke,builtin,Builtin.max_,e1,e2]
   case h_3 x y z u hargs =>
    have hargs' : args = #[x,y,z,u]:=by rw [← Array.toArray_toList (xs:=args),hargs]
    subst hargs'
    simp only [avalK_eq] at h
    obtain ⟨v1,h1,hv1⟩:=mmK_ok (P:=P) h
    obtain ⟨v2,h2,hv2⟩:=mmK_ok (P:=P) h1
    obtain ⟨v,hK,hv⟩:=mmK_ok (P:=P) h2
    refine pureOf hK fun w g a hop=>?_
    obtain ⟨r1,e1,f1⟩:=hv1 w g (base + L) _ _ (hop x (by rw [ho];simp [Op.operands,Call.operands])) (hop y (by rw [ho];simp [Op.operands,Call.operands]))
    obtain ⟨r2,e2,f2⟩:=hv2 w g (base + L) _ _ f1 (hop z (by rw [ho];simp [Op.operands,Call.operands]))
    obtain ⟨r,e3,f3⟩:=hv w g (base + L) _ _ f2 (hop u (by rw [ho];simp [Op.operands,Call.operands]))
    refine ⟨r,?_,f3⟩
    unfold execOp;rw [ho];simp only at e1 e2 e3;simp [resolve,invoke,builtin,Builtin.max_,e1,e2,e3]
   case h_4=>exact h.elim
  case h_4=>exact h.elim
 case h_18 t ps ho =>
  obtain ⟨v,hK,hv⟩:=buildK_ok h
  refine pureOf hK fun w g a hop=>?_
  obtain ⟨r,e1,e2⟩:=hv w g (base + L) a.eval fun p hp=>hop p.2 (by rw [ho];simp [Op.operands];exact ⟨p.1,by simpa using hp⟩)
  refine ⟨r,?_,e2⟩
  unfold execOp;rw [ho];simp [e1]
 case h_19 t x y ho =>
  simp only [avalK_eq] at h
  exact makeK_ok hC ho h
 case h_20 t x l hh mx ho =>
  rw [avalK_eq] at h
  cases hia : isArrK P t with
  | true=>rw [hia] at h;exact arrK2_ok ho h
  | false =>
  rw [hia] at h
  obtain ⟨v,hK,hv⟩:=sliceK2_ok h
  refine pureOf hK fun w g a hop=>?_
  obtain ⟨r,e1,e2⟩:=hv w g (base + L) _ a.eval (hop x (by rw [ho];simp [Op.operands])) (fun y hy=>hop y (by rw [ho];simp [Op.operands,hy])) (fun y hy=>hop y (by rw [ho];simp [Op.operands,hy])) (fun y hy=>hop y (by rw [ho];simp [Op.operands,hy]))
  refine ⟨r,?_,e2⟩
  unfold execOp;rw [ho];simp [e1]
 case h_21 t n ps ho=>exact litK_ok hC ho h
 case h_22 t x i ho =>
  rw [avalK_eq,avalK_eq] at h
  obtain ⟨v,hK,hv⟩:=idxAK_ok h
  refine pureOf hK fun w g a hop=>?_
  obtain ⟨r,e1,e2⟩:=hv w g (base + L) _ _ (hop x (by rw [ho];simp [Op.operands])) (hop i (by rw [ho];simp [Op.operands]))
  refine ⟨r,?_,e2⟩
  unfold execOp;rw [ho];simp [e1]
 case h_23 t r ho=>exact mkMapK_ok ho h
 case h_24 t x i ok ho=>rw [avalK_eq,avalK_eq] at h;exact lookK_ok hC ho h
 case h_25 t x i v ho=>rw [avalK_eq,avalK_eq,avalK_eq] at h;exact mapPutK_ok hC (.inl ho) h
 case h_26 t x i v ho=>rw [avalK_eq,avalK_eq,avalK_eq] at h;exact mapPutK_ok hC (.inr ho) h
 case h_27=>exact h.elim
open Go Go.RowKit
def setK : List AV → Nat → AV → (List AV → Prop) → Prop
 | [],_,_,K=>K []
 | _ :: r,0,v,K=>K (v :: r)
 | a :: r,n + 1,v,K=>setK r n v fun r'=>K (a :: r')
theorem setK_eq (f : List AV) (d : Nat) (v : AV) (K : List AV → Prop) : setK f d v K = K (f.set d v):=by
 induction f generalizing d K with
 | nil=>rfl
 | cons a r ih=>cases d<;>simp [setK,ih]
def fputK (f : List AV) (d : Option Nat) (v : AV) (K : List AV → Prop) : Prop:=match d with|some d=>setK f d v K|none=>K f
theorem fputK_eq (f : List AV) (d : Option Nat) (v : AV) (K : List AV → Prop) : fputK f d v K = K (fput f d v):=by
 cases d with
 | none=>rfl
 | some d=>exact setK_eq f d v K
mutual
def fgtC (k : Nat) : AV → (AV → Prop) → Prop
 | .own t j o n c,K=>match Nat.beq j k with|true=>K .top|false=>K (.own t j o n c)
 | .ptr j o,K=>match Nat.beq j k with|true=>K .top|false=>K (.ptr j o)
 | .rptr t j i o,K=>match Nat.beq j k with|true=>K .top|false=>K (.rptr t j i o)
 | .mp j,K=>match Nat.beq j k with|true=>K .top|false=>K (.mp j)
 | .agg cs,K=>fgtCL k cs fun l=>K (.agg l)
 | .tup cs,K=>fgtCL k cs fun l=>K (.tup l)
 | .clo f a b,K=>fgtCL k a fun a=>fgtCL k b fun b=>K (.clo f a b)
 | v,K=>K v
def fgtCL (k : Nat) : List AV → (List AV → Prop) → Prop
 | [],K=>K []
 | c :: r,K=>fgtC k c fun c=>fgtCL k r fun r=>K (c :: r)
end
mutual
theorem fgtC_eq (k : Nat) : ∀ (v : AV) (K : AV → Prop),fgtC k v K = K (fgt k v)
 | .top,_=>rfl
 | .tt,_=>rfl
 | .ff,_=>rfl
 | .lit _,_=>rfl
 | .agg cs,K=>by simp only [fgtC,fgt];exact fgtCL_eq k cs _
 | .tup cs,K=>by simp only [fgtC,fgt];exact fgtCL_eq k cs _
 | .vec _ _,_=>rfl
 | .emp _,_=>rfl
 | .bl _ _,_=>rfl
 | .own t j o n c,K=>by simp only [fgtC,fgt];cases Nat.beq j k<;>rfl
 | .ptr j o,K=>by simp only [fgtC,fgt];cases Nat.beq j k<;>rfl
 | .rptr t j i o,K=>by simp only [fgtC,fgt];cases Nat.beq j k<;>rfl
 | .vptr _ _ _ _,_=>rfl
 | .fec _ _ _,_=>rfl
 | .fptr _ _ _ _,_=>rfl
 | .sl,_=>rfl
 | .mp j,K=>by simp only [fgtC,fgt];cases Nat.beq j k<;>rfl
 | .clo f a b,K=>by simp only [fgtC,fgt];rw [fgtCL_eq k a,fgtCL_eq k b]
theorem fgtCL_eq (k : Nat) : ∀ (cs : List AV) (K : List AV → Prop),fgtCL k cs K = K (fgtL k cs)
 | [],_=>rfl
 | c :: r,K=>by simp only [fgtCL,fgtL];rw [fgtC_eq k c,fgtCL_eq k r]
end
def fgtMem (k : Nat) : Mem → Mem
 | []=>[]
 | (i,b) :: r=>(i,fgtB k b) :: fgtMem k r
def fgtMC (k : Nat) : Mem → (Mem → Prop) → Prop
 | [],K=>K []
 | (i,b) :: r,K=>match b with
  | .box cs=>fgtCL k cs fun cs=>fgtMC k r fun r=>K ((i,.box cs) :: r)
  | .row t l=>fgtMC k r fun r=>K ((i,.row t l) :: r)
  | .mp ks cs=>fgtCL k cs fun cs=>fgtMC k r fun r=>K ((i,.mp ks cs) :: r)
  | .pm ik F n=>fgtMC k r fun r=>K ((i,.pm ik F n) :: r)
theorem fgtMC_eq (k : Nat) (m : Mem) (K : Mem → Prop) : fgtMC k m K = K (fgtMem k m):=by
 induction m generalizing K with
 | nil=>rfl
 | cons p r ih =>
  obtain ⟨i,b⟩:=p
  cases b with
  | box cs=>simp only [fgtMC,fgtMem,fgtB];rw [fgtCL_eq,ih]
  | row t l=>simp only [fgtMC,fgtMem,fgtB];rw [ih]
  | mp ks cs=>simp only [fgtMC,fgtMem,fgtB];rw [fgtCL_eq,ih]
  | pm ik F n=>simp only [fgtMC,fgtMem,fgtB];rw [ih]
theorem mget_fgtMem (k : Nat) (m : Mem) : mget (fgtMem k m) = fgtM k (mget m):=by
 funext j
 induction m with
 | nil=>rfl
 | cons p r ih =>
  obtain ⟨i,b⟩:=p
  simp only [fgtMem,mget,fgtM]
  cases Nat.beq i j with
  | true=>rfl
  | false=>simpa [fgtM] using ih
def fgtsC : List Nat → List AV → Mem → (List AV → Mem → Prop) → Prop
 | [],f,m,K=>K f m
 | k :: r,f,m,K=>fgtCL k f fun f=>fgtMC k m fun m=>fgtsC r f m K
theorem fgtsC_eq (ks : List Nat) (f : List AV) (m : Mem) (K : List AV → Mem → Prop) (h : fgtsC ks f m K) : ∃ m',K (fgtsF ks f) m' ∧ mget m' = fgtsM ks (mget m):=by
 induction ks generalizing f m with
 | nil=>exact ⟨m,h,rfl⟩
 | cons k r ih =>
  simp only [fgtsC] at h
  rw [fgtCL_eq,fgtMC_eq] at h
  obtain ⟨m',h1,h2⟩:=ih _ _ h
  exact ⟨m',h1,by rw [h2,mget_fgtMem];rfl⟩
def msetC : Mem → Nat → Blk → (Mem → Prop) → Prop
 | [],k,b,K=>K [(k,b)]
 | (i,c) :: r,k,b,K=>match Nat.beq i k with|true=>K ((k,b) :: r)|false=>msetC r k b fun r=>K ((i,c) :: r)
theorem msetC_eq (m : Mem) (k : Nat) (b : Blk) (K : Mem → Prop) : msetC m k b K = K (mset m k b):=by
 induction m generalizing K with
 | nil=>rfl
 | cons p r ih =>
  obtain ⟨i,c⟩:=p
  simp only [msetC,mset]
  cases Nat.beq i k with
  | true=>rfl
  | false=>simp only;rw [ih]
def mdelC : Mem → Nat → (Mem → Prop) → Prop
 | [],_,K=>K []
 | (i,c) :: r,k,K=>match Nat.beq i k with|true=>mdelC r k K|false=>mdelC r k fun r=>K ((i,c) :: r)
theorem mdelC_eq (m : Mem) (k : Nat) (K : Mem → Prop) : mdelC m k K = K (mdel m k):=by
 induction m generalizing K with
 | nil=>rfl
 | cons p r ih =>
  obtain ⟨i,c⟩:=p
  simp only [mdelC,mdel]
  cases Nat.beq i k with
  | true=>simp only;rw [ih]
  | false=>simp only;rw [ih]
def putsC : List (Nat × Option Blk) → Mem → (Mem → Prop) → Prop
 | [],m,K=>K m
 | (k,b) :: r,m,K=>match b with
  | some b=>msetC m k b fun m=>putsC r m K
  | none=>mdelC m k fun m=>putsC r m K
theorem mget_mset' (m : Mem) (k : Nat) (b : Blk) : mget (mset m k b) = put (mget m) k (some b):=by funext j;rw [mget_mset];rfl
theorem mget_mdel' (m : Mem) (k : Nat) : mget (mdel m k) = put (mget m) k none:=by funext j;rw [mget_mdel];rfl
theorem putsC_eq (us : List (Nat × Option Blk)) (m : Mem) (K : Mem → Prop) (h : putsC us m K) : ∃ m',K m' ∧ mget m' = putsM us (mget m):=by
 induction us generalizing m with
 | nil=>exact ⟨m,h,rfl⟩
 | cons p r ih =>
  obtain ⟨k,b⟩:=p
  cases b with
  | some b =>
   simp only [putsC] at h
   rw [msetC_eq] at h
   obtain ⟨m',h1,h2⟩:=ih _ h
   exact ⟨m',h1,by rw [h2,mget_mset'];rfl⟩
  | none =>
   simp only [putsC] at h
   rw [mdelC_eq] at h
   obtain ⟨m',h1,h2⟩:=ih _ h
   exact ⟨m',h1,by rw [h2,mget_mdel'];rfl⟩
def applyK (c : Act1) (f : List AV) (m : Mem) (d : Option Nat) (K : List AV → Mem → Prop) : Prop:=
 match c with
 | ⟨v,_,up,fg⟩=>fgtsC fg f m fun f m=>putsC up m fun m=>fputK f d v fun f=>K f m
theorem applyK_eq {c : Act1} {f : List AV} {m : Mem} {d : Option Nat} {K : List AV → Mem → Prop} (h : applyK c f m d K) : ∃ m',K (c.fr f d) m' ∧ mget m' = c.me (mget m):=by
 obtain ⟨v,rd,up,fg⟩:=c
 obtain ⟨m1,h1,h2⟩:=fgtsC_eq _ _ _ _ h
 obtain ⟨m2,h3,h4⟩:=putsC_eq _ _ _ h1
 rw [fputK_eq] at h3
 exact ⟨m2,h3,by rw [h4,h2];rfl⟩
structure CAct (P : Program) (base : Nat) (fn : FuncId) (args : List AV) (c : Act1) : Prop where
 go : ∀ (m : Nat → Option Blk),(∀ p ∈ c.rd,m p.1 = some p.2) → ∀ (w : World) (g : G) (vs : Array Value),MSim w g (base + L) m → RepL w g (base + L) args vs →
  Calls P fn vs w fun e w'=>∃ x g',e = .returned x ∧ Rep w' g' (base + L) c.v x ∧ MSim w' g' (base + L) (c.me m) ∧ Tr g w w' ∧ LeG base g g' ∧
   ∀ fr xs,RepL w g (base + L) fr xs → RepL w' g' (base + L) (fgtsF c.fg fr) xs
mutual
def noR (lim : Nat) : AV → AV
 | .own t j o n c=>match Nat.blt j lim with|true=>.own t j o n c|false=>.top
 | .ptr j o=>match Nat.blt j lim with|true=>.ptr j o|false=>.top
 | .rptr t j i o=>match Nat.blt j lim with|true=>.rptr t j i o|false=>.top
 | .mp j=>match Nat.blt j lim with|true=>.mp j|false=>.top
 | .agg cs=>.agg (noRL lim cs)
 | .tup cs=>.tup (noRL lim cs)
 | .clo f a b=>.clo f (noRL lim a) (noRL lim b)
 | .vec t l=>match fB t with|true=>.top|false=>.vec t l
 | .vptr _ _ _ _=>.top
 | .fec _ _ _=>.top
 | .fptr _ _ _ _=>.top
 | v=>v
def noRL (lim : Nat) : List AV → List AV
 | []=>[]
 | c :: r=>noR lim c :: noRL lim r
end
mutual
def noRC (lim : Nat) : AV → (AV → Prop) → Prop
 | .own t j o n c,K=>match Nat.blt j lim with|true=>K (.own t j o n c)|false=>K .top
 | .ptr j o,K=>match Nat.blt j lim with|true=>K (.ptr j o)|false=>K .top
 | .rptr t j i o,K=>match Nat.blt j lim with|true=>K (.rptr t j i o)|false=>K .top
 | .mp j,K=>match Nat.blt j lim with|true=>K (.mp j)|false=>K .top
 | .agg cs,K=>noRCL lim cs fun l=>K (.agg l)
 | .tup cs,K=>noRCL lim cs fun l=>K (.tup l)
 | .clo f a b,K=>noRCL lim a fun a=>noRCL lim b fun b=>K (.clo f a b)
 | .vec t l,K=>match fB t with|true=>K .top|false=>K (.vec t l)
 | .vptr _ _ _ _,K=>K .top
 | .fec _ _ _,K=>K .top
 | .fptr _ _ _ _,K=>K .top
 | v,K=>K v
def noRCL (lim : Nat) : List AV → (List AV → Prop) → Prop
 | [],K=>K []
 | c :: r,K=>noRC lim c fun c=>noRCL lim r fun r=>K (c :: r)
end
mutual
theorem noRC_eq (lim : Nat) : ∀ (v : AV) (K : AV → Prop),noRC lim v K = K (noR lim v)
 | .top,_=>rfl
 | .tt,_=>rfl
 | .ff,_=>rfl
 | .lit _,_=>rfl
 | .emp _,_=>rfl
 | .bl _ _,_=>rfl
 | .agg cs,K=>by simp only [noRC,noR];exact noRCL_eq lim cs _
 | .tup cs,K=>by simp only [noRC,noR];exact noRCL_eq lim cs _
 | .vec t l,K=>by simp only [noRC,noR];cases fB t<;>rfl
 | .own t j o n c,K=>by simp only [noRC,noR];cases Nat.blt j lim<;>rfl
 | .ptr j o,K=>by simp only [noRC,noR];cases Nat.blt j lim<;>rfl
 | .rptr t j i o,K=>by simp only [noRC,noR];cases Nat.blt j lim<;>rfl
 | .vptr _ _ _ _,_=>rfl
 | .fec _ _ _,_=>rfl
 | .fptr _ _ _ _,_=>rfl
 | .sl,_=>rfl
 | .mp j,K=>by simp only [noRC,noR];cases Nat.blt j lim<;>rfl
 | .clo f a b,K=>by simp only [noRC,noR];rw [noRCL_eq lim a,noRCL_eq lim b]
theorem noRCL_eq (lim : Nat) : ∀ (cs : List AV) (K : List AV → Prop),noRCL lim cs K = K (noRL lim cs)
 | [],_=>rfl
 | c :: r,K=>by simp only [noRCL,noRL];rw [noRC_eq lim c,noRCL_eq lim r]
end
theorem noRL_length (lim : Nat) : ∀ cs : List AV,(noRL lim cs).length = cs.length
 | []=>rfl
 | c :: r=>by simp only [noRL,List.length_cons];rw [noRL_length lim r]
theorem noRL_get {lim : Nat} {cs : List AV} {i : Nat} {c : AV} (h : (noRL lim cs)[i]? = some c) : ∃ c',cs[i]? = some c' ∧ c = noR lim c':=by
 induction cs generalizing i with
 | nil=>simp [noRL] at h
 | cons a r ih =>
  simp only [noRL] at h
  cases i with
  | zero=>simp at h;exact ⟨a,by simp,h.symm⟩
  | succ i=>simp at h;simpa using ih h
theorem Rep.noR {w w' : World} {g g' : G} {lim : Nat} {v : AV} {x : Value} (hl : LeG lim g g') (ht : Tr g w w') (h : Rep w g lim v x) : Rep w' g' lim (noR lim v) x:=by
 have hal : ∀ k,Nat.blt k lim = true → g'.al k → g.al k ∧ g'.be k = g.be k ∧ g'.sz k = g.sz k:=fun k he ha=>hl.al k (Nat.le_of_ble_eq_true he) ha
 induction h with
 | top x=>exact .top x
 | tt=>exact .tt
 | ff=>exact .ff
 | lit v=>exact .lit v
 | agg cs xs hl h ih=>exact .agg _ xs (by rw [noRL_length];exact hl) fun i c x hc hx=>by obtain ⟨c',h1,rfl⟩:=noRL_get hc;exact ih i c' x h1 hx
 | tup cs xs hl h ih=>exact .tup _ xs (by rw [noRL_length];exact hl) fun i c x hc hx=>by obtain ⟨c',h1,rfl⟩:=noRL_get hc;exact ih i c' x h1 hx
 | vecE t a cap =>
  simp only [Eng.noR]
  cases hb : fB t with
  | true=>exact .top _
  | false=>exact .vecE t a cap
 | vec t l b o cap xs hc hr hw h ih =>
  simp only [Eng.noR]
  cases hb : fB t with
  | true=>exact .top _
  | false=>exact Rep.monoF ⟨hl.ro,ht.same⟩ (Nat.le_refl _) (.vec t l b o cap xs hc hr hw h) (.inl (by simp only [nofV,hb])) fun k hm=>Bool.noConfusion hm
 | fecE _ _ _ _=>exact .top _
 | fec _ _ _ _ _ _ _ _ _ _ _ _=>exact .top _
 | jec _ _ _ _ _ _ _ _ _=>exact .top _
 | fptr _ _ _ _ _ _ _ _ _=>exact .top _
 | sl a n c=>exact .sl a n c
 | emp t a=>exact .emp t a
 | bl p q b hp hq=>exact .bl p q b hp hq
 | own t j off len b cap c hk hc hcc h =>
  simp only [Eng.noR]
  cases he : Nat.blt j lim with
  | false=>exact .top _
  | true=>exact .own t j off len b cap c hk hc hcc fun ha=>by obtain ⟨e1,e2,e3⟩:=hal j he ha;rw [e2,e3];exact h e1
 | ownE t j off c ad hk hcc =>
  simp only [Eng.noR]
  cases he : Nat.blt j lim with
  | false=>exact .top _
  | true=>exact .ownE t j off c ad hk hcc
 | ptr j off b hk h =>
  simp only [Eng.noR]
  cases he : Nat.blt j lim with
  | false=>exact .top _
  | true=>exact .ptr j off b hk fun ha=>by obtain ⟨e1,e2,e3⟩:=hal j he ha;rw [e2];exact h e1
 | rptr t j i off b hk h =>
  simp only [Eng.noR]
  cases he : Nat.blt j lim with
  | false=>exact .top _
  | true=>exact .rptr t j i off b hk fun ha=>by obtain ⟨e1,e2,e3⟩:=hal j he ha;rw [e2];exact h e1
 | mp j b hk h =>
  simp only [Eng.noR]
  cases he : Nat.blt j lim with
  | false=>exact .top _
  | true=>exact .mp j b hk fun ha=>by obtain ⟨e1,e2,e3⟩:=hal j he ha;rw [e2];exact h e1
 | vptr _ _ _ _ _ _ _ _ _ _ _=>exact .top _
 | clo fn fs cs fs' cs' hl' h hl'' h' ih ih' =>
  exact .clo fn _ _ fs' cs' (by rw [noRL_length];exact hl') (fun i c x hc hx=>by obtain ⟨c',h1,rfl⟩:=noRL_get hc;exact ih i c' x h1 hx)
   (by rw [noRL_length];exact hl'') (fun i c x hc hx=>by obtain ⟨c',h1,rfl⟩:=noRL_get hc;exact ih' i c' x h1 hx)
theorem RepL.noR {w w' : World} {g g' : G} {lim : Nat} {fr : List AV} {xs : Array Value} (hl : LeG lim g g') (ht : Tr g w w') (h : RepL w g lim fr xs) : RepL w' g' lim (noRL lim fr) xs:=
 ⟨by rw [noRL_length];exact h.1,fun i c x hc hx=>by obtain ⟨c',h1,rfl⟩:=noRL_get hc;exact (h.2 i c' x h1 hx).noR hl ht⟩
structure ICall (P : Program) (base : Nat) (fn : FuncId) (args : List AV) (m : Mem) (K : AV → Mem → Prop) : Prop where
 go : ∀ (w : World) (g : G) (vs : Array Value),MSim w g (base + L) (mget m) → RepL w g (base + L) args vs →
  Calls P fn vs w fun e w'=>∃ v x g' m',e = .returned x ∧ Rep w' g' (base + L) v x ∧ MSim w' g' (base + L) (mget m') ∧ Tr g w w' ∧ LeG (base + L) g g' ∧ K v m'
open Go Go.RowKit
def calleeK (v : AV) (K : FuncId → List AV → List AV → Prop) : Prop:=
 match v with
 | .lit (.func (.func g) fs cs)=>match fs.size,cs.size with
  | 0,0=>K g [] []
  | _,_=>False
 | .clo (.func g) fs cs=>K g fs cs
 | _=>False
def appK : List AV → List AV → (List AV → Prop) → Prop
 | [],l,K=>K l
 | a :: r,l,K=>appK r l fun r=>K (a :: r)
theorem appK_eq (a b : List AV) (K : List AV → Prop) : appK a b K = K (a ++ b):=by
 induction a generalizing K with
 | nil=>rfl
 | cons x r ih=>simp only [appK,List.cons_append];rw [ih]
structure Cfg2 extends Cfg where
 fn : Nat → Bool
 ov : Nat → Bool
structure Cfg2Ok (P : Program) (c : Cfg2) : Prop extends CfgOk P c.toCfg where
 call : ∀ f,c.fn f = true → ∀ (args : Array Value) (w : World),(callFunc f args).run P w = .ok (.enter f args) w
 over : ∀ f,c.ov f = true → ∃ (t tR e : TypeId) (z : Nat),P.underlying t = some (.slice e) ∧ szOf P e = some z ∧ ∀ (args : Array Value) (w : World),
  (callFunc f args).run P w = ((Extern.SlicesOverlaps.overlaps #[t,t] #[tR] args).run P w).andThen fun v w'=>.ok (.value v) w'
def ovK (m : Mem) (all : List AV) (K : Act1 → Prop) : Prop:=
 match all with
 | [a,b]=>match a with
  | .own _ k1 _ _ _=>match b with
   | .own _ k2 _ _ _=>match Nat.beq k1 k2 with
    | true=>False
    | false=>memK m k1 fun b1=>memK m k2 fun b2=>match b1 with
     | .row _ _=>match b2 with
      | .row _ _=>K ⟨.ff,[(k1,b1),(k2,b2)],[],[]⟩
      | .box _=>False
      | .mp _ _=>False
      | .pm _ _ _=>False
     | .box _=>False
     | .mp _ _=>False
     | .pm _ _ _=>False
   | _=>False
  | _=>False
 | _=>False
theorem run_over {P : Program} {w : World} {t tR e : TypeId} {z : Nat} (ht : P.underlying t = some (.slice e)) (hz : szOf P e = some z) {g : G} {lim : Nat} {m : Mem} (hm : MSim w g lim (mget m)) {t1 t2 : Ty} {k1 k2 o1 o2 n1 n2 : Nat} {c1 c2 : Option Nat}
  (hk : k1 ≠ k2) {x y : Value} (hx : Rep w g lim (.own t1 k1 o1 n1 c1) x) (hy : Rep w g lim (.own t2 k2 o2 n2 c2) y) {b1 b2 : Blk} (h1 : mget m k1 = some b1) (h2 : mget m k2 = some b2) (r1 : ∃ t l,b1 = .row t l) (r2 : ∃ t l,b2 = .row t l) :
  (Extern.SlicesOverlaps.overlaps #[t,t] #[tR] #[x,y]).run P w = .ok (.bool false) w:=by
 obtain ⟨s1,l1,rfl⟩:=r1
 obtain ⟨s2,l2,rfl⟩:=r2
 have hzr:=fun w=>Eng.run_sizeOf (P:=P) (w:=w) hz
 have none1 : ∀ (a b : Option Addr) (la ca lb cb : Nat),(la = 0 ∨ lb = 0) → (Extern.SlicesOverlaps.overlaps #[t,t] #[tR] #[.slice a la ca,.slice b lb cb]).run P w = .ok (.bool false) w:=by
  intro a b la ca lb cb h
  have h' : la = 0 ∨ lb = 0 ∨ z = 0:=by omega
  change Sem.run P (α:=Value) (do
   let some t := (#[t, t] : Array TypeId)[0]? | stuck "slices.overlaps: no parameter types"
   let .slice elem ← underlying t | stuck "slices.overlaps: slice type expected"
   let size ← Go.sizeOf elem
   match a,b with
   | some a,some b =>
    if la = 0 ∨ lb = 0 ∨ size = 0 then pure (Value.bool false)
    else if a.block != b.block && (← frozen a) && (← frozen b) then unsupported .addressObserved
    else do
     if a.block != b.block then do
      noView a;noView b
      if ← mayBeOne a b then return Value.bool ((← choose (.extern "sameAddr.stringBytes" 2)) == 1)
     pure (Value.bool (a.block == b.block && a.off < b.off + lb * size && b.off < a.off + la * size))
   | _,_=>pure (Value.bool false)) w = _
  cases a<;>cases b<;>simp [run_underlying ht,hzr,h']
 have hal1 : g.al k1:=(hm.al k1).2 (by simp [h1])
 have hal2 : g.al k2:=(hm.al k2).2 (by simp [h2])
 cases hx with
 | ownE _ _ _ _ ad _ _=>cases hy<;>exact none1 _ _ _ _ _ _ (.inl rfl)
 | own _ _ _ _ a ca _ _ hc1 _ hh1 =>
  obtain ⟨rfl,s1'⟩:=hh1 hal1
  cases hy with
  | ownE _ _ _ _ ad _ _=>exact none1 _ _ _ _ _ _ (.inr rfl)
  | own _ _ _ _ b cb _ _ hc2 _ hh2 =>
   obtain ⟨rfl,s2'⟩:=hh2 hal2
   by_cases hn : n1 = 0 ∨ n2 = 0
   ·exact none1 _ _ _ _ _ _ hn
   ·have z1 : 0 < g.sz k1:=Nat.lt_of_lt_of_le (Nat.mul_pos (by omega) (csz_pos t1)) s1'
    have z2 : 0 < g.sz k2:=Nat.lt_of_lt_of_le (Nat.mul_pos (by omega) (csz_pos t2)) s2'
    obtain ⟨d1,ty1,p1,p2,_,_⟩:=(hm.blk k1 _ h1).getRow z1
    obtain ⟨d2,ty2,q1,q2,_,_⟩:=(hm.blk k2 _ h2).getRow z2
    exact Lib.run_overlaps_apart w t tR e ht z hzr _ _ n1 ca n2 cb (fun e=>hk (hm.inj k1 k2 hal1 hal2 z1 z2 e)) ty1 ty2 d1.size d2.size (by simp [World.shape?,p1]) (by simp [World.shape?,q1]) (by omega)
     (by simp [World.frozen?,p1]) (by simp [World.frozen?,p1])
def callK (P : Program) (C : Cfg2) (base : Nat) (f : List AV) (m : Mem) (o : Oper) (fo : Operand) (args : List Operand) (K : List AV → Mem → Prop) : Prop:=
 avalK f fo fun fv=>calleeK fv fun g fs cs=>avalsK f args fun vs=>appK vs cs fun vc=>appK fs vc fun all=>match C.fn g with
  | true=>(∃ c : Act1,(∀ p ∈ c.rd,mget m p.1 = some p.2) ∧ CAct P base g all c ∧ applyK c f m o.dst K) ∨
   ICall P base g all m (fun v m'=>noRCL (base + L) f fun f'=>fputK f' o.dst v fun f''=>K f'' m')
  | false=>match C.ov g with
   | true=>ovK m all fun c=>applyK c f m o.dst K
   | false=>False
def stepK (P : Program) (C : Cfg2) (base : Nat) (f : List AV) (m : Mem) (o : Oper) (K : List AV → Mem → Prop) : Prop:=
 match o.op with
 | .call { callee:=.value fo,args:=args,argTypes:=_ }=>callK P C base f m o fo args.toList K
 | _=>opA P C.toCfg base f m o fun c=>applyK c f m o.dst K
def SOk (P : Program) (base : Nat) (o : Oper) (f : List AV) (m : Mem) (K : List AV → Mem → Prop) : Prop:=
 ∀ (w : World) (g : G) (a : Act),Sim w g (base + L) f (mget m) a → ∀ (N : Act → World → Prop) (Q : Exit → Act → World → Prop),
  (∀ f' m' w' g' a',K f' m' → Sim w' g' (base + L) f' (mget m') a' → Tr g w w' → LeG base g g' → N a' w') → o.wp P a w N Q
theorem calls_wp {P : Program} {C : Cfg2} (hC : Cfg2Ok P C) {base : Nat} {f : List AV} {m : Nat → Option Blk} {o : Oper} {fo : Operand} {args : Array Operand} {ats : Array TypeId}
  (ho : o.op = .call { callee:=.value fo,args:=args,argTypes:=ats }) {g : FuncId} {fs cs : List AV} (hg : C.fn g = true)
  (hc : ∀ {w : World} {gh : G} {lim : Nat} {x : Value},Rep w gh lim (aval f fo) x → ∃ fs' cs',x = .func (.func g) fs' cs' ∧ RepL w gh lim fs fs' ∧ RepL w gh lim cs cs')
  {w : World} {gh : G} {a : Act} (hs : Sim w gh (base + L) f m a) (N : Act → World → Prop) (Q : Exit → Act → World → Prop)
  (h : ∀ vs,RepL w gh (base + L) (fs ++ ((args.toList.map (aval f)) ++ cs)) vs → Calls P g vs w fun e w'=>∃ x,e = .returned x ∧ N (a.put o.dst x) w') : o.wp P a w N Q:=by
 obtain ⟨fs',cs',e1,e2,e3⟩:=hc (rep_aval hs fo)
 have hall : RepL w gh (base + L) (fs ++ ((args.toList.map (aval f)) ++ cs)) (fs' ++ args.map a.eval ++ cs'):=by
  have l1 : fs.length = fs'.size:=e2.1
  have l2 : cs.length = cs'.size:=e3.1
  refine ⟨by simp [l1,l2,Nat.add_assoc],fun i c x hcx hx=>?_⟩
  by_cases h1 : i < fs.length
  ·rw [List.getElem?_append_left h1] at hcx
   rw [Array.append_assoc,Array.getElem?_append_left (by omega)] at hx
   exact e2.2 i c x hcx hx
  ·rw [List.getElem?_append_right (by omega)] at hcx
   rw [Array.append_assoc,Array.getElem?_append_right (by omega)] at hx
   by_cases h2 : i - fs.length < args.size
   ·rw [List.getElem?_append_left (by simpa using h2)] at hcx
    rw [Array.getElem?_append_left (by simp;omega)] at hx
    rw [l1] at hcx
    simp only [List.getElem?_map] at hcx
    simp only [Array.getElem?_map] at hx
    cases hi : args[i - fs'.size]? with
    | none=>rw [hi] at hx;cases hx
    | some z =>
     rw [hi] at hx
     have : args.toList[i - fs'.size]? = some z:=by simpa using hi
     rw [this] at hcx
     simp at hcx hx;subst hcx;subst hx
     exact rep_aval hs z
   ·rw [List.getElem?_append_right (by simp;omega)] at hcx
    rw [Array.getElem?_append_right (by simp;omega)] at hx
    refine e3.2 _ c x hcx ?_
    rw [← hx];congr 1;simp;omega
 have hrun : (execOp a.eval o).run P w = .ok (.enter g (fs' ++ args.map a.eval ++ cs')) w:=by
  unfold execOp;rw [ho]
  simp [resolve,e1,Deferred.ofValue,invoke,hC.call g hg]
 unfold Oper.wp
 rw [hrun,Oper.upon_enter]
 refine (h _ hall).mono fun e w' ⟨x,he,hn⟩=>?_
 subst he
 exact hn
theorem over_wp {P : Program} {C : Cfg2} (hC : Cfg2Ok P C) {base : Nat} {f : List AV} {m : Nat → Option Blk} {o : Oper} {fo : Operand} {args : Array Operand} {ats : Array TypeId}
  (ho : o.op = .call { callee:=.value fo,args:=args,argTypes:=ats }) {g : FuncId} {fs cs : List AV} (hg : C.ov g = true)
  (hc : ∀ {w : World} {gh : G} {lim : Nat} {x : Value},Rep w gh lim (aval f fo) x → ∃ fs' cs',x = .func (.func g) fs' cs' ∧ RepL w gh lim fs fs' ∧ RepL w gh lim cs cs')
  {w : World} {gh : G} {a : Act} (hs : Sim w gh (base + L) f m a) (N : Act → World → Prop) (Q : Exit → Act → World → Prop)
  (h : ∀ vs,RepL w gh (base + L) (fs ++ ((args.toList.map (aval f)) ++ cs)) vs → ∀ (t tR e : TypeId) (z : Nat),P.underlying t = some (.slice e) → szOf P e = some z →
   ∃ x,(Extern.SlicesOverlaps.overlaps #[t,t] #[tR] vs).run P w = .ok x w ∧ N (a.put o.dst x) w) : o.wp P a w N Q:=by
 obtain ⟨fs',cs',e1,e2,e3⟩:=hc (rep_aval hs fo)
 have hall : RepL w gh (base + L) (fs ++ ((args.toList.map (aval f)) ++ cs)) (fs' ++ args.map a.eval ++ cs'):=by
  have l1 : fs.length = fs'.size:=e2.1
  have l2 : cs.length = cs'.size:=e3.1
  refine ⟨by simp [l1,l2,Nat.add_assoc],fun i c x hcx hx=>?_⟩
  by_cases h1 : i < fs.length
  ·rw [List.getElem?_append_left h1] at hcx
   rw [Array.append_assoc,Array.getElem?_append_left (by omega)] at hx
   exact e2.2 i c x hcx hx
  ·rw [List.getElem?_append_right (by omega)] at hcx
   rw [Array.append_assoc,Array.getElem?_append_right (by omega)] at hx
   by_cases h2 : i - fs.length < args.size
   ·rw [List.getElem?_append_left (by simpa using h2)] at hcx
    rw [Array.getElem?_append_left (by simp;omega)] at hx
    rw [l1] at hcx
    simp only [List.getElem?_map] at hcx
    simp only [Array.getElem?_map] at hx
    cases hi : args[i - fs'.size]? with
    | none=>rw [hi] at hx;cases hx
    | some z =>
     rw [hi] at hx
     have : args.toList[i - fs'.size]? = some z:=by simpa using hi
     rw [this] at hcx
     simp at hcx hx;subst hcx;subst hx
     exact rep_aval hs z
   ·rw [List.getElem?_append_right (by simp;omega)] at hcx
    rw [Array.getElem?_append_right (by simp;omega)] at hx
    refine e3.2 _ c x hcx ?_
    rw [← hx];congr 1;simp;omega
 obtain ⟨t,tR,e,z,ht,hz,hcall⟩:=hC.over g hg
 obtain ⟨x,hx,hn⟩:=h _ hall t tR e z ht hz
 have hrun : (execOp a.eval o).run P w = .ok (.value x) w:=by
  unfold execOp;rw [ho]
  have hx2:=hx
  rw [Array.append_assoc] at hx2
  simp [resolve,e1,Deferred.ofValue,invoke,hcall,hx,hx2]
 unfold Oper.wp
 rw [hrun,Oper.upon_value]
 exact hn
theorem calleeK_ok {v : AV} {K : FuncId → List AV → List AV → Prop} (h : calleeK v K) : ∃ g fs cs,K g fs cs ∧
  ∀ {w : World} {gh : G} {lim : Nat} {x : Value},Rep w gh lim v x → ∃ fs' cs',x = .func (.func g) fs' cs' ∧ RepL w gh lim fs fs' ∧ RepL w gh lim cs cs':=by
 unfold calleeK at h
 split at h
 ·rename_i g fs cs
  split at h
  ·rename_i h1 h2
   refine ⟨g,[],[],h,fun {w gh lim x} hr=>⟨fs,cs,rep_lit hr,⟨by simpa using h1.symm,fun i c x hc=>by simp at hc⟩,⟨by simpa using h2.symm,fun i c x hc=>by simp at hc⟩⟩⟩
  ·exact h.elim
 ·rename_i g fs cs
  refine ⟨g,fs,cs,h,fun {w gh lim x} hr=>?_⟩
  cases hr with
  | clo _ _ _ fs' cs' hl h hl' h'=>exact ⟨fs',cs',rfl,⟨hl,h⟩,⟨hl',h'⟩⟩
 ·exact h.elim
theorem stepK_ok {P : Program} {C : Cfg2} (hC : Cfg2Ok P C) {base : Nat} {f : List AV} {m : Mem} {o : Oper} {K : List AV → Mem → Prop} (h : stepK P C base f m o K) : SOk P base o f m K:=by
 unfold stepK at h
 split at h
 case h_1 fo args ats ho =>
  unfold callK at h
  rw [avalK_eq] at h
  obtain ⟨g,fs,cs,h,hc⟩:=calleeK_ok h
  rw [avalsK_eq,appK_eq,appK_eq] at h
  cases hg : C.fn g with
  | false =>
   rw [hg] at h
   simp only at h
   cases hov : C.ov g with
   | false=>rw [hov] at h;exact h.elim
   | true =>
   rw [hov] at h
   simp only at h
   generalize hall : fs ++ (args.toList.map (aval f) ++ cs) = all at h
   unfold ovK at h
   split at h
   case h_2=>exact h.elim
   split at h
   case h_2=>exact h.elim
   split at h
   case h_2=>exact h.elim
   rename_i t1 k1 o1 n1 c1 xx t2 k2 o2 n2 c2
   cases hk : Nat.beq k1 k2 with
   | true=>rw [hk] at h;exact h.elim
   | false =>
   rw [hk] at h
   simp only at h
   obtain ⟨b1,hb1,h'⟩:=memK_ok h
   clear h
   obtain ⟨b2,hb2,h⟩:=memK_ok h'
   clear h'
   cases b1 with
   | box _=>exact h.elim
   | mp _ _=>exact h.elim
   | pm _ _ _=>exact h.elim
   | row s1 l1 =>
   cases b2 with
   | box _=>exact h.elim
   | mp _ _=>exact h.elim
   | pm _ _ _=>exact h.elim
   | row s2 l2 =>
   obtain ⟨m',hK,hm'⟩:=applyK_eq h
   intro w gh a hs N Q hN
   refine over_wp hC ho hov hc hs N Q fun vs hvs t tR e z ht hz=>?_
   rw [hall] at hvs
   obtain ⟨x,y,rfl⟩ : ∃ x y,vs = #[x,y]:=by
    have hsz:=hvs.1
    obtain ⟨l,rfl⟩ : ∃ l : List Value,vs = l.toArray:=⟨vs.toList,by simp⟩
    match l,hsz with
    | [x,y],_=>exact ⟨x,y,rfl⟩
   refine ⟨.bool false,run_over ht hz hs.me (nbf.1 hk) (hvs.2 0 (.own t1 k1 o1 n1 c1) x rfl rfl) (hvs.2 1 (.own t2 k2 o2 n2 c2) y rfl rfl) hb1 hb2 ⟨_,_,rfl⟩ ⟨_,_,rfl⟩,?_⟩
   refine hN _ m' w gh _ hK ⟨hs.fr.put .ff o.dst,(Act.put_df _ _ _).trans hs.df,by rw [hm'];exact hs.me⟩ (Tr.refl gh w) (LeG.refl base gh)
  | true =>
  rw [hg] at h
  intro w gh a hs N Q hN
  rcases h with ⟨c,hrd,hca,hK⟩|hI
  ·obtain ⟨m',hK,hm'⟩:=applyK_eq hK
   refine calls_wp hC ho hg hc hs N Q fun vs hvs=>?_
   refine (hca.go (mget m) hrd w gh vs hs.me hvs).mono fun e w' ⟨x,g',e1,e2,e3,e4,e5,e6⟩=>⟨x,e1,?_⟩
   exact hN _ m' w' g' _ hK ⟨(e6 _ _ hs.fr).put e2 o.dst,(Act.put_df _ _ _).trans hs.df,by rw [hm'];exact e3⟩ e4 e5
  ·refine calls_wp hC ho hg hc hs N Q fun vs hvs=>?_
   refine (hI.go w gh vs hs.me hvs).mono fun e w' ⟨v,x,g',m',e1,e2,e3,e4,e5,e6⟩=>⟨x,e1,?_⟩
   -- as it is
   rw [noRCL_eq,fputK_eq] at e6
   exact hN _ m' w' g' _ e6 ⟨(hs.fr.noR e5 e4).put e2 o.dst,(Act.put_df _ _ _).trans hs.df,e3⟩ e4 (e5.mono (Nat.le_add_right _ _))
 case h_2 =>
  intro w gh a hs N Q hN
  obtain ⟨c,hK,hrd,hok⟩:=opA_ok hC.toCfgOk h
  obtain ⟨m',hK,hm'⟩:=applyK_eq hK
  refine hok f (mget m) (fun _ _=>Le.refl _) hrd w gh a hs N Q fun w' g' a' hs' ht hl=>?_
  exact hN _ m' w' g' a' hK (by rw [hm'];exact hs') ht hl
def opAt : List Oper → Nat → Option Oper
 | [],_=>none
 | o :: _,0=>some o
 | _ :: r,n + 1=>opAt r n
theorem opAt_eq (l : List Oper) (n : Nat) : opAt l n = l[n]?:=by
 induction l generalizing n with
 | nil=>rfl
 | cons o r ih=>cases n<;>simp [opAt,ih]
def guardK (all : List Oper) (f : List AV) (gd : Option (Nat × Bool)) (run skip : List AV → Prop) : Prop:=
 match gd with
 | none=>run f
 | some (j,want)=>match opAt all j with
  | some oj=>match oj.dst with
   | some d=>nthK f d fun v=>match v with
    | .tt=>match want with|true=>run f|false=>skip f
    | .ff=>match want with|true=>skip f|false=>run f
    | .lit (.bool b)=>(b = true → setK f d .tt fun f=>match want with|true=>run f|false=>skip f) ∧
     (b = false → setK f d .ff fun f=>match want with|true=>skip f|false=>run f)
    | .bl p q=>(p → setK f d .tt fun f=>match want with|true=>run f|false=>skip f) ∧
     (q → setK f d .ff fun f=>match want with|true=>skip f|false=>run f)
    | .lit (.tuple _)=>skip f
    | _=>False
   | none=>False
  | none=>False
def opsK (P : Program) (C : Cfg2) (base : Nat) (all : List Oper) : List Oper → List AV → Mem → (List AV → Mem → Prop) → Prop
 | [],f,m,K=>K f m
 | o :: r,f,m,K=>guardK all f o.guard (fun f=>stepK P C base f m o fun f m=>opsK P C base all r f m K) (fun f=>fputK f o.dst und fun f=>opsK P C base all r f m K)
theorem set_self {f : List AV} {d : Nat} {v : AV} {w : World} {g : G} {lim : Nat} {m : Nat → Option Blk} {a : Act} (hs : Sim w g lim f m a) (h : ∀ x,a.tmps[d]? = some x → Rep w g lim v x) :
  Sim w g lim (f.set d v) m a:=by
 refine ⟨⟨by simpa using hs.fr.1,fun i c x hc hx=>?_⟩,hs.df,hs.me⟩
 rw [List.getElem?_set] at hc
 by_cases hd : d = i
 ·subst hd
  simp at hc
  obtain ⟨_,rfl⟩:=hc
  exact h x hx
 ·rw [if_neg hd] at hc
  exact hs.fr.2 i c x hc hx
theorem guardK_ok {all : List Oper} {f : List AV} {o : Oper} {run skip : List AV → Prop} (h : guardK all f o.guard run skip) {w : World} {g : G} {lim : Nat} {m : Nat → Option Blk} {a : Act} (hs : Sim w g lim f m a) :
  ∃ f',Sim w g lim f' m a ∧ ((Region.wanted o (yielded all.toArray a.tmps) = true ∧ run f') ∨ (Region.wanted o (yielded all.toArray a.tmps) = false ∧ skip f')):=by
 unfold guardK at h
 cases hg : o.guard with
 | none=>rw [hg] at h;exact ⟨f,hs,.inl ⟨by simp [Region.wanted,hg],h⟩⟩
 | some p =>
  obtain ⟨j,want⟩:=p
  rw [hg] at h
  simp only at h
  rw [opAt_eq] at h
  cases hj : all[j]? with
  | none=>rw [hj] at h;exact h.elim
  | some oj =>
  rw [hj] at h
  simp only at h
  cases hd : oj.dst with
  | none=>rw [hd] at h;exact h.elim
  | some d =>
  rw [hd] at h
  simp only at h
  rw [nthK_eq] at h
  have key : ∀ (b : Bool),(∀ x,a.tmps[d]? = some x → x = .bool b) → d < f.length → Region.wanted o (yielded all.toArray a.tmps) = (b == want):=by
   intro b hb hlt
   have hsz : f.length = a.tmps.size:=hs.fr.1
   have hx : a.tmps[d]? = some (a.tmps[d]'(by rw [← hsz];exact hlt)):=Array.getElem?_eq_getElem _
   have:=hb _ hx
   rw [this] at hx
   have hy : yielded all.toArray a.tmps j = some b:=by
    unfold yielded
    simp [hj,hd,hx]
   simp only [Region.wanted,hg,hy]
   cases b<;>cases want<;>rfl
  by_cases hlt : d < f.length
  ·have hf : f[d]? = some f[d]:=List.getElem?_eq_getElem hlt
   rw [hf] at h
   simp only [Option.getD_some] at h
   have hrep : ∀ x,a.tmps[d]? = some x → Rep w g lim f[d] x:=fun x hx=>hs.fr.2 d _ x hf hx
   split at h
   ·rename_i hv
    have hw:=key true (fun x hx=>by have:=hrep x hx;rw [hv] at this;cases this;rfl) hlt
    cases want with
    | true=>exact ⟨f,hs,.inl ⟨by simpa using hw,h⟩⟩
    | false=>exact ⟨f,hs,.inr ⟨by simpa using hw,h⟩⟩
   ·rename_i hv
    have hw:=key false (fun x hx=>by have:=hrep x hx;rw [hv] at this;cases this;rfl) hlt
    cases want with
    | true=>exact ⟨f,hs,.inr ⟨by simpa using hw,h⟩⟩
    | false=>exact ⟨f,hs,.inl ⟨by simpa using hw,h⟩⟩
   ·rename_i b hv
    rw [setK_eq,setK_eq] at h
    have hxb : ∀ x,a.tmps[d]? = some x → x = .bool b:=fun x hx=>by have:=hrep x hx;rw [hv] at this;exact rep_lit this
    have hw:=key b hxb hlt
    cases b with
    | true =>
     refine ⟨f.set d .tt,set_self hs (fun x hx=>by rw [hxb x hx];exact .tt),?_⟩
     have h:=h.1 rfl
     cases want with
     | true=>exact .inl ⟨by simpa using hw,h⟩
     | false=>exact .inr ⟨by simpa using hw,h⟩
    | false =>
     refine ⟨f.set d .ff,set_self hs (fun x hx=>by rw [hxb x hx];exact .ff),?_⟩
     have h:=h.2 rfl
     cases want with
     | true=>exact .inr ⟨by simpa using hw,h⟩
     | false=>exact .inl ⟨by simpa using hw,h⟩
   ·rename_i p q hv
    rw [setK_eq,setK_eq] at h
    have hx0 : a.tmps[d]? = some (a.tmps[d]'(by rw [← hs.fr.1];exact hlt)):=Array.getElem?_eq_getElem _
    have hr0:=hrep _ hx0
    rw [hv] at hr0
    generalize hX : a.tmps[d]'(by rw [← hs.fr.1];exact hlt) = X at hr0 hx0
    cases hr0 with
    | bl _ _ b hp hq =>
    have hxb : ∀ x,a.tmps[d]? = some x → x = .bool b:=fun x hx=>by rw [hx0] at hx;cases hx;rfl
    have hw:=key b hxb hlt
    cases b with
    | true =>
     refine ⟨f.set d .tt,set_self hs (fun x hx=>by rw [hxb x hx];exact .tt),?_⟩
     have h:=h.1 (hp rfl)
     cases want with
     | true=>exact .inl ⟨by simpa using hw,h⟩
     | false=>exact .inr ⟨by simpa using hw,h⟩
    | false =>
     refine ⟨f.set d .ff,set_self hs (fun x hx=>by rw [hxb x hx];exact .ff),?_⟩
     have h:=h.2 (hq rfl)
     cases want with
     | true=>exact .inr ⟨by simpa using hw,h⟩
     | false=>exact .inl ⟨by simpa using hw,h⟩
   ·rename_i ys hv
    have hx0 : a.tmps[d]? = some (a.tmps[d]'(by rw [← hs.fr.1];exact hlt)):=Array.getElem?_eq_getElem _
    have hr0:=hrep _ hx0
    rw [hv] at hr0
    rw [rep_lit hr0] at hx0
    refine ⟨f,hs,.inr ⟨?_,h⟩⟩
    have hy : yielded all.toArray a.tmps j = none:=by
     unfold yielded
     simp [hj,hd,hx0]
    simp only [Region.wanted,hg,hy]
    rfl
   ·exact h.elim
  ·have hf : f[d]? = none:=List.getElem?_eq_none (Nat.le_of_not_lt hlt)
   rw [hf] at h
   have hx0 : a.tmps[d]? = none:=Array.getElem?_eq_none (by rw [← hs.fr.1];exact Nat.le_of_not_lt hlt)
   refine ⟨f,hs,.inr ⟨?_,h⟩⟩
   have hy : yielded all.toArray a.tmps j = none:=by
    unfold yielded
    simp [hj,hd,hx0]
   simp only [Region.wanted,hg,hy]
   rfl
theorem opsK_ok {P : Program} {C : Cfg2} (hC : Cfg2Ok P C) {base : Nat} {all : List Oper} (l : List Oper) : ∀ {f : List AV} {m : Mem} {K : List AV → Mem → Prop},opsK P C base all l f m K →
  ∀ (w : World) (g : G) (a : Act),Sim w g (base + L) f (mget m) a → ∀ (Q : Exit → Act → World → Prop),
   (∀ f' m' w' g' a',K f' m' → Sim w' g' (base + L) f' (mget m') a' → Tr g w w' → LeG base g g' → Q .normal a' w') → wpList P all.toArray Q l a w:=by
 induction l with
 | nil=>intro f m K h w g a hs Q hQ;exact hQ f m w g a h hs (Tr.refl g w) (LeG.refl base g)
 | cons o r ih =>
  intro f m K h w g a hs Q hQ
  simp only [opsK] at h
  obtain ⟨f',hs',hh⟩:=guardK_ok h hs
  unfold wpList
  rcases hh with ⟨hw,hr⟩|⟨hw,hr⟩
  ·rw [if_pos hw]
   refine .inl (stepK_ok hC hr w g a hs' _ Q fun f2 m2 w2 g2 a2 hK hs2 ht hl=>?_)
   exact ih hK w2 g2 a2 hs2 Q fun f3 m3 w3 g3 a3 hK3 hs3 ht3 hl3=>hQ f3 m3 w3 g3 a3 hK3 hs3 (ht.trans hl ht3) (hl.trans hl3)
  ·rw [if_neg (by simp [hw])]
   rw [fputK_eq] at hr
   exact ih hr w g _ (hs'.put (.lit _) o.dst) Q hQ
open Go Go.RowKit
inductive AE where
 | normal
 | exit (i : Nat)
 | ret
def exitOf : AE → Exit
 | .normal=>.normal
 | .exit i=>.exit i
 | .ret=>.ret
abbrev Post:=AE → List AV → Mem → Prop
structure Runs (P : Program) (base : Nat) (c : Code) (Q : Post) (f : List AV) (m : Mem) : Prop where
 go : ∀ (w : World) (g : G) (a : Act),Sim w g (base + L) f (mget m) a →
  c.wp P (fun e a' w'=>∃ ae f' m' g',e = exitOf ae ∧ Q ae f' m' ∧ Sim w' g' (base + L) f' (mget m') a' ∧ Tr g w w' ∧ LeG base g g') a w
structure Draws (P : Program) (base : Nat) (ops : Array Oper) (f : List AV) (m : Mem) (K : List AV → Mem → Prop) : Prop where
 go : ∀ (id : Nat),Runs P base (.region id ops true) (fun e f' m'=>match e with|.normal=>K f' m'|_=>False) f m
def ev (P : Program) (C : Cfg2) (base : Nat) : Code → Post → List AV → Mem → Prop
 | .skip,Q,f,m=>Q .normal f m
 | .region _ ops draw,Q,f,m=>match draw with
  | false=>opsK P C base ops.toList ops.toList f m (Q .normal)
  | true=>Draws P base ops f m (Q .normal)
 | .seq x y,Q,f,m=>ev P C base x (fun e f' m'=>match e with|.normal=>ev P C base y Q f' m'|e=>Q e f' m') f m
 | .cond c x y,Q,f,m=>avalK f c fun v=>match v with
  | .tt=>ev P C base x Q f m
  | .ff=>ev P C base y Q f m
  | .lit (.bool b)=>(b = true → ev P C base x Q f m) ∧ (b = false → ev P C base y Q f m)
  | .bl p q=>(p → ev P C base x Q f m) ∧ (q → ev P C base y Q f m)
  | _=>False
 | .block i x,Q,f,m=>ev P C base x (fun e f' m'=>match e with|.exit j=>(match Nat.beq j i with|true=>Q .normal f' m'|false=>Q (.exit j) f' m')|e=>Q e f' m') f m
 | .exit i,Q,f,m=>Q (.exit i) f m
 | .ret,Q,f,m=>Q .ret f m
 | .loop x,Q,f,m=>Runs P base (.loop x) Q f m
 | _,_,_,_=>False
theorem Runs.mono {P : Program} {base : Nat} {c : Code} {Q Q' : Post} {f : List AV} {m : Mem} (h : Runs P base c Q f m) (hq : ∀ e f m,Q e f m → Q' e f m) : Runs P base c Q' f m:=
 ⟨fun w g a hs=>Code.wp_mono (fun _ _ _ ⟨ae,f',m',g',e1,e2,e3⟩=>⟨ae,f',m',g',e1,hq _ _ _ e2,e3⟩) (h.go w g a hs)⟩
theorem Runs.seq {P : Program} {base : Nat} {x y : Code} {Q : Post} {f : List AV} {m : Mem}
  (h : Runs P base x (fun e f' m'=>match e with|.normal=>Runs P base y Q f' m'|e=>Q e f' m') f m) : Runs P base (.seq x y) Q f m:=by
 refine ⟨fun w g a hs=>?_⟩
 refine wp_seq (Code.wp_mono (fun e a' w' hh=>?_) (h.go w g a hs))
 obtain ⟨ae,f',m',g',rfl,hq,hs',ht,hl⟩:=hh
 cases ae with
 | normal =>
  refine Code.wp_mono (fun e a2 w2 hh=>?_) (hq.go w' g' a' hs')
  obtain ⟨ae,f2,m2,g2,e1,e2,e3,e4,e5⟩:=hh
  exact ⟨ae,f2,m2,g2,e1,e2,e3,ht.trans hl e4,hl.trans e5⟩
 | exit i=>exact ⟨.exit i,f',m',g',rfl,hq,hs',ht,hl⟩
 | ret=>exact ⟨.ret,f',m',g',rfl,hq,hs',ht,hl⟩
theorem Runs.block {P : Program} {base : Nat} {i : Nat} {x : Code} {Q : Post} {f : List AV} {m : Mem}
  (h : Runs P base x (fun e f' m'=>match e with|.exit j=>(match Nat.beq j i with|true=>Q .normal f' m'|false=>Q (.exit j) f' m')|e=>Q e f' m') f m) : Runs P base (.block i x) Q f m:=by
 refine ⟨fun w g a hs=>?_⟩
 refine wp_block (Code.wp_mono (fun e a' w' hh=>?_) (h.go w g a hs))
 obtain ⟨ae,f',m',g',rfl,hq,hs',ht,hl⟩:=hh
 cases ae with
 | normal=>exact ⟨.normal,f',m',g',rfl,hq,hs',ht,hl⟩
 | ret=>exact ⟨.ret,f',m',g',rfl,hq,hs',ht,hl⟩
 | exit j =>
  simp only [exitOf,Exit.inBlock]
  cases hb : Nat.beq j i with
  | true =>
   simp only [hb] at hq
   rw [if_pos (nbt.1 hb)]
   exact ⟨.normal,f',m',g',rfl,hq,hs',ht,hl⟩
  | false =>
   simp only [hb] at hq
   rw [if_neg (nbf.1 hb)]
   exact ⟨.exit j,f',m',g',rfl,hq,hs',ht,hl⟩
theorem ev_ok {P : Program} {C : Cfg2} (hC : Cfg2Ok P C) {base : Nat} (c : Code) : ∀ {Q : Post} {f : List AV} {m : Mem},ev P C base c Q f m → Runs P base c Q f m:=by
 induction c with
 | skip=>intro Q f m h;refine ⟨fun w g a hs=>?_⟩;exact wp_skip ⟨.normal,f,m,g,rfl,h,hs,Tr.refl g w,LeG.refl base g⟩
 | region id ops draw =>
  intro Q f m h
  cases draw with
  | true=>exact (Draws.go h id).mono fun e f m hh=>by cases e<;>first|exact hh|exact hh.elim
  | false =>
   refine ⟨fun w g a hs=>?_⟩
   refine wp_region_list ?_
   have:=opsK_ok hC ops.toList h w g a hs (fun e a' w'=>∃ ae f' m' g',e = exitOf ae ∧ Q ae f' m' ∧ Sim w' g' (base + L) f' (mget m') a' ∧ Tr g w w' ∧ LeG base g g')
    (fun f' m' w' g' a' hK hs' ht hl=>⟨.normal,f',m',g',rfl,hK,hs',ht,hl⟩)
   simpa using this
 | seq x y ihx ihy =>
  intro Q f m h
  refine Runs.seq ((ihx h).mono fun e f m hh=>?_)
  cases e with
  | normal=>exact ihy hh
  | exit i=>exact hh
  | ret=>exact hh
 | cond c x y ihx ihy =>
  intro Q f m h
  refine ⟨fun w g a hs=>?_⟩
  simp only [ev] at h
  rw [avalK_eq] at h
  have hr:=rep_aval hs c
  split at h
  ·rename_i hv
   rw [hv] at hr
   refine wp_cond_true (by generalize hE : a.eval c = E at hr;cases hr;rfl) ((ihx h).go w g a hs)
  ·rename_i hv
   rw [hv] at hr
   refine wp_cond_false (by generalize hE : a.eval c = E at hr;cases hr;rfl) ((ihy h).go w g a hs)
  ·rename_i b hv
   rw [hv] at hr
   exact wp_cond_split (rep_lit hr) (fun hb=>(ihx (h.1 hb)).go w g a hs) (fun hb=>(ihy (h.2 hb)).go w g a hs)
  ·rename_i p q hv
   rw [hv] at hr
   generalize hE : a.eval c = E at hr
   cases hr with
   | bl _ _ b hp hq=>exact wp_cond_split hE (fun hb=>(ihx (h.1 (hp hb))).go w g a hs) (fun hb=>(ihy (h.2 (hq hb))).go w g a hs)
  ·exact h.elim
 | block i x ih=>intro Q f m h;exact Runs.block ((ih h).mono fun e f m hh=>hh)
 | loop x ih=>intro Q f m h;exact h
 | exit i=>intro Q f m h;refine ⟨fun w g a hs=>?_⟩;exact wp_exit ⟨.exit i,f,m,g,rfl,h,hs,Tr.refl g w,LeG.refl base g⟩
 | ret=>intro Q f m h;refine ⟨fun w g a hs=>?_⟩;exact wp_ret ⟨.ret,f,m,g,rfl,h,hs,Tr.refl g w,LeG.refl base g⟩
 | rangeFunc _ _ _ _ _ _=>intro Q f m h;exact h.elim
 | scope _ _=>intro Q f m h;exact h.elim
 | label _=>intro Q f m h;exact h.elim
 | goto _=>intro Q f m h;exact h.elim
 | refuse _=>intro Q f m h;exact h.elim
inductive LeF : List AV → List AV → Prop where
 | nil : LeF [] []
 | same {v : AV} {f f' : List AV} (h : LeF f f') : LeF (v :: f) (v :: f')
 | top {v : AV} {f f' : List AV} (h : LeF f f') : LeF (v :: f) (.top :: f')
theorem LeF.repL {w : World} {g : G} {lim : Nat} {f f' : List AV} {xs : Array Value} (h : LeF f f') (hr : RepL w g lim f xs) : RepL w g lim f' xs:=by
 have hl : f.length = f'.length:=by
  clear hr
  induction h with
  | nil=>rfl
  | same _ ih=>simp [ih]
  | top _ ih=>simp [ih]
 refine ⟨by rw [← hl];exact hr.1,fun i c x hc hx=>?_⟩
 have key : ∀ (f f' : List AV),LeF f f' → ∀ (i : Nat) (c : AV),f'[i]? = some c → c = AV.top ∨ f[i]? = some c:=by
  intro f f' h
  induction h with
  | nil=>intro i c hc;simp at hc
  | same _ ih=>intro i c hc;cases i with
   | zero=>exact .inr hc
   | succ i=>simpa using ih i c (by simpa using hc)
  | top _ ih=>intro i c hc;cases i with
   | zero=>simp at hc;exact .inl hc.symm
   | succ i=>simpa using ih i c (by simpa using hc)
 rcases key f f' h i c hc with rfl|h2
 ·exact .top x
 ·exact hr.2 i c x h2 hx
def dels : List Nat → Mem → Mem
 | [],m=>m
 | k :: r,m=>dels r (mdel m k)
theorem Sim.del {w : World} {g : G} {lim : Nat} {f : List AV} {m : Mem} {a : Act} (hs : Sim w g lim f (mget m) a) (k : Nat) : Sim w (g.kill k) lim f (mget (mdel m k)) a:=
 ⟨hs.fr.kill k,hs.df,by rw [mget_mdel'];exact hs.me.kill k⟩
theorem Sim.dels {w : World} {lim : Nat} {f : List AV} {a : Act} (base : Nat) (ks : List Nat) : ∀ {g : G} {m : Mem},Sim w g lim f (mget m) a → ∃ g',Sim w g' lim f (mget (dels ks m)) a ∧ LeG base g g' ∧ Tr g w w:=by
 induction ks with
 | nil=>intro g m hs;exact ⟨g,hs,LeG.refl base g,Tr.refl g w⟩
 | cons k r ih =>
  intro g m hs
  obtain ⟨g',h1,h2,h3⟩:=ih (hs.del k)
  exact ⟨g',h1,(LeG.kill base g k).trans h2,Tr.refl g w⟩
theorem wp_loop_n {P : Program} {Q : Exit → Act → World → Prop} {a : Act} {w : World} {c : Code} (I : Nat → Act → World → Prop) (n : Nat) (h₀ : I n a w)
  (round : ∀ n a w,I n a w → c.wp P (Exit.then (fun a' w'=>∃ n',n' < n ∧ I n' a' w') Q) a w) : (Code.loop c).wp P Q a w:=by
 intro b k cs
 have key : ∀ n a w,I n a w → ∃ e a' w',Q e a' w' ∧ Arrives P (lone (b.at a (.code c :: .inLoop c :: k)) cs w) b k cs e a' w':=by
  intro n
  induction n using Nat.strongRecOn with
  | _ n ih =>
   intro a w hI
   obtain ⟨e,a₁,w₁,hq,harr⟩:=round n a w hI b (.inLoop c :: k) cs
   cases e with
   | normal =>
    obtain ⟨n',hlt,hI₁⟩:=hq
    obtain ⟨e₂,a₂,w₂,hq₂,harr₂⟩:=ih n' hlt a₁ w₁ hI₁
    exact ⟨e₂,a₂,w₂,hq₂,.of_steps (Steps.trans harr (.one step_inLoop)) harr₂⟩
   | exit id=>exact ⟨_,a₁,w₁,hq,.pass (x:=.inLoop c) rfl (fun _ _=>.inl (by simp)) harr⟩
   | goto l=>exact ⟨_,a₁,w₁,hq,.pass (x:=.inLoop c) rfl (fun _ _=>.inl (by simp)) harr⟩
   | ret=>exact ⟨_,a₁,w₁,hq,.pass (x:=.inLoop c) rfl (fun _ _=>.inl (by simp)) harr⟩
   | panic ch=>exact ⟨_,a₁,w₁,hq,.pass (x:=.inLoop c) rfl (fun _ _=>.inl (by simp)) harr⟩
   | outgrown=>exact ⟨_,a₁,w₁,hq,.pass (x:=.inLoop c) rfl (fun _ _=>.inl (by simp)) harr⟩
 obtain ⟨e,a',w',hq,harr⟩:=key n a w h₀
 exact ⟨e,a',w',hq,.of_steps (.one step_loop) harr⟩
theorem Runs.loop {P : Program} {C : Cfg2} (hC : Cfg2Ok P C) {base : Nat} {c : Code} {Q : Post} {f : List AV} {m : Mem} (I : Nat → List AV → Mem → Prop) (n : Nat) (ks : List Nat) (f0 : List AV)
  (h0 : LeF f f0) (hI : I n f0 (dels ks m))
  (round : ∀ n f m,I n f m → ev P C base c (fun e f' m'=>match e with
   | .normal=>∃ n' f2 ks,n' < n ∧ LeF f' f2 ∧ I n' f2 (dels ks m')
   | e=>Q e f' m') f m) : Runs P base (.loop c) Q f m:=by
 refine ⟨fun w g a hs=>?_⟩
 obtain ⟨g0,hs0,hl0,_⟩:=Sim.dels base ks hs
 have hs1 : Sim w g0 (base + L) f0 (mget (dels ks m)) a:=⟨h0.repL hs0.fr,hs0.df,hs0.me⟩
 refine wp_loop_n (fun n a' w'=>∃ f' m' g',I n f' m' ∧ Sim w' g' (base + L) f' (mget m') a' ∧ Tr g w w' ∧ LeG base g g') n ⟨f0,_,g0,hI,hs1,Tr.refl g w,hl0⟩ ?_
 intro n1 a1 w1 hh
 obtain ⟨f1,m1,g1,hI1,hs1,ht1,hl1⟩:=hh
 refine Code.wp_mono (fun e a2 w2 hh=>?_) ((ev_ok hC c (round n1 f1 m1 hI1)).go w1 g1 a1 hs1)
 obtain ⟨ae,f2,m2,g2,rfl,hq,hs2,ht2,hl2⟩:=hh
 cases ae with
 | normal =>
  obtain ⟨n',f3,ks',hlt,hle,hI'⟩:=hq
  obtain ⟨g3,hs3,hl3,_⟩:=Sim.dels base ks' hs2
  exact ⟨n',hlt,f3,_,g3,hI',⟨hle.repL hs3.fr,hs3.df,hs3.me⟩,ht1.trans hl1 ht2,(hl1.trans hl2).trans hl3⟩
 | exit i=>exact ⟨.exit i,f2,m2,g2,rfl,hq,hs2,ht1.trans hl1 ht2,hl1.trans hl2⟩
 | ret=>exact ⟨.ret,f2,m2,g2,rfl,hq,hs2,ht1.trans hl1 ht2,hl1.trans hl2⟩
open Go Go.RowKit
def resOne (P : Program) (f : List AV) (m : Mem) (r : ResultVar) (K : AV → Prop) : Prop:=
 match r with
 | .tmp t=>nthK f t K
 | .cell p t=>nthK f p fun v=>match v with
  | .ptr k off=>memK m k fun b=>match b with
   | .box cs=>aggK P t cs off K
   | .row _ _=>False
   | .mp _ _=>False
   | .pm _ _ _=>False
  | _=>False
def resMany (P : Program) (f : List AV) (m : Mem) : List ResultVar → (List AV → Prop) → Prop
 | [],K=>K []
 | r :: rs,K=>resOne P f m r fun v=>resMany P f m rs fun vs=>K (v :: vs)
def resK (P : Program) (f : List AV) (m : Mem) (rs : List ResultVar) (K : AV → Prop) : Prop:=
 resMany P f m rs fun vs=>match vs with
  | [v]=>K v
  | vs=>K (.tup vs)
def runOne (tmps : Array Value) : ResultVar → Sem Value
 | .tmp t=>pure (tmps.getD t undef)
 | .cell a t=>do loadVar t (← asAddr (tmps.getD a undef))
theorem resOne_ok {P : Program} {f : List AV} {m : Mem} {r : ResultVar} {K : AV → Prop} (h : resOne P f m r K) {w : World} {g : G} {lim : Nat} {a : Act} (hs : Sim w g lim f (mget m) a) :
  ∃ v x,K v ∧ (runOne a.tmps r).run P w = .ok x w ∧ Rep w g lim v x:=by
 cases r with
 | tmp t =>
  simp only [resOne] at h
  rw [nthK_eq] at h
  exact ⟨_,_,h,rfl,rep_aval hs (.tmp t)⟩
 | cell p t =>
  simp only [resOne] at h
  rw [nthK_eq] at h
  have hr:=rep_aval hs (.tmp p)
  simp only [aval] at hr
  cases hv : (f[p]?).getD und<;>rw [hv] at h<;>simp only at h
  case ptr k off =>
   rw [hv] at hr
   obtain ⟨b,hb,h⟩:=memK_ok h
   cases b with
   | row t' l=>exact h.elim
   | mp _ _=>exact h.elim
   | pm _ _ _=>exact h.elim
   | box cs =>
    simp only at h
    obtain ⟨v,hK,hv2⟩:=aggK_ok h
    have hal : g.al k:=(hs.me.al k).2 (by simp [hb])
    have he : a.tmps.getD p undef = .pointer (some ⟨g.be k,off,none⟩):=rep_ptr hr hal
    obtain ⟨_,c,ty,b1,b2,b3,b4⟩:=hs.me.blk k _ hb
    obtain ⟨y,e1,e2⟩:=hv2 (w:=w) (g:=g) (lim:=lim) (b:=g.be k) (o:=0) (fun i=>(c[i]?).getD undef)
     (fun i a hi=>by
      have hlt : i < c.size:=by have:=(List.getElem?_eq_some_iff.1 hi).1;omega
      rw [Nat.zero_add,cell_of_row w _ i c ty _ b1,Array.getElem?_eq_getElem hlt];simp)
     (fun i a hi=>by
      have hlt : i < c.size:=by have:=(List.getElem?_eq_some_iff.1 hi).1;omega
      have:=b4 i a c[i] hi (Array.getElem?_eq_getElem hlt)
      simpa [Array.getElem?_eq_getElem hlt] using this)
    refine ⟨v,y,hK,?_,e2⟩
    simp only [runOne,he,asAddr,Sem.run_bind,Sem.run_pure,Result.andThen_ok]
    simpa [Instr.loadAt,Instr.sureAddr] using e1
  all_goals exact h.elim
theorem resMany_ok {P : Program} {f : List AV} {m : Mem} {rs : List ResultVar} {w : World} {g : G} {lim : Nat} {a : Act} (hs : Sim w g lim f (mget m) a) : ∀ {K : List AV → Prop},resMany P f m rs K →
  ∃ vs xs,K vs ∧ (rs.mapM (runOne a.tmps)).run P w = .ok xs w ∧ RepL w g lim vs xs.toArray:=by
 induction rs with
 | nil=>intro K h;exact ⟨[],[],h,by simp,rfl,fun i c x hc=>by simp at hc⟩
 | cons r rs ih =>
  intro K h
  simp only [resMany] at h
  obtain ⟨v,x,h,e1,e2⟩:=resOne_ok h hs
  obtain ⟨vs,xs,h,e3,e4⟩:=ih h
  refine ⟨v :: vs,x :: xs,h,by simp [List.mapM_cons,e1,e3],by have:=e4.1;simp at this ⊢;exact this,fun i c y hc hy=>?_⟩
  cases i with
  | zero=>simp at hc hy;subst hc;subst hy;exact e2
  | succ i=>exact e4.2 i c y (by simpa using hc) (by simpa using hy)
theorem resK_ok {P : Program} {f : List AV} {m : Mem} {fn : Func} {K : AV → Prop} (h : resK P f m fn.results.toList K) {w : World} {g : G} {lim : Nat} {a : Act} (hs : Sim w g lim f (mget m) a) :
  ∃ v x,K v ∧ (results fn a.tmps).run P w = .ok x w ∧ Rep w g lim v x:=by
 unfold resK at h
 obtain ⟨vs,xs,h,e1,e2⟩:=resMany_ok hs h
 have hm : (fn.results.mapM (runOne a.tmps)).run P w = .ok xs.toArray w:=by
  rw [← Array.toArray_toList (xs:=fn.results),List.mapM_toArray]
  simp [e1]
 have hres0 : results fn a.tmps = (fn.results.mapM (runOne a.tmps) >>= fun vs=>pure (if h : vs.size = 1 then vs[0] else .tuple vs)):=by
  unfold results
  congr 1
 have hres : (results fn a.tmps).run P w = .ok (if h : xs.toArray.size = 1 then xs.toArray[0] else .tuple xs.toArray) w:=by
  rw [hres0,Sem.run_bind,hm];rfl
 have hlen : vs.length = xs.length:=by simpa using e2.1
 split at h
 ·rename_i v
  have h1 : xs.length = 1:=by simpa using hlen.symm
  obtain ⟨x,rfl⟩ : ∃ x,xs = [x]:=List.length_eq_one_iff.1 h1
  refine ⟨v,x,h,by rw [hres];rfl,e2.2 0 v x (by simp) (by simp)⟩
 ·rename_i hne
  refine ⟨.tup vs,.tuple xs.toArray,h,?_,.tup _ _ e2.1 e2.2⟩
  rw [hres,dif_neg]
  intro h1
  have h2 : vs.length = 1:=by rw [hlen];simpa using h1
  obtain ⟨v,hv⟩:=List.length_eq_one_iff.1 h2
  exact hne v hv
def menMem (k : Nat) : Mem → Bool
 | []=>false
 | (_,b) :: r=>match menB k b with|true=>true|false=>menMem k r
def cleanK (lim : Nat) : List Nat → AV → Mem → (AV → Mem → Prop) → Prop
 | [],v,m,K=>K v m
 | k :: r,v,m,K=>match Nat.beq (k % 2) 0 with
  | true=>match Nat.ble lim k with
   | true=>mdelC m k fun m=>fgtC k v fun v=>fgtMC k m fun m=>cleanK lim r v m K
   | false=>cleanK lim r v m K
  | false=>match men k v with
   | true=>cleanK lim r v m K
   | false=>match menMem k m with
    | true=>cleanK lim r v m K
    | false=>mdelC m k fun m=>cleanK lim r v m K
def keys : Mem → (List Nat → List Nat → Prop) → Prop
 | [],K=>K [] []
 | (i,_) :: r,K=>keys r fun e o=>match Nat.beq (i % 2) 0 with|true=>K (i :: e) o|false=>K e (i :: o)
theorem cleanK_ok {lim : Nat} {w : World} {L' : Nat} {x : Value} (base : Nat) (ks : List Nat) : ∀ {v : AV} {m : Mem} {K : AV → Mem → Prop} {g : G},cleanK lim ks v m K → Rep w g L' v x → MSim w g L' (mget m) →
  ∃ v' m' g',K v' m' ∧ Rep w g' L' v' x ∧ MSim w g' L' (mget m') ∧ LeG base g g':=by
 induction ks with
 | nil=>intro v m K g h hv hm;exact ⟨v,m,g,h,hv,hm,LeG.refl base g⟩
 | cons k r ih =>
  intro v m K g h hv hm
  simp only [cleanK] at h
  split at h
  ·split at h
   ·rw [mdelC_eq,fgtC_eq,fgtMC_eq] at h
    obtain ⟨v',m',g',h1,h2,h3,h4⟩:=ih (g:=g.kill k) h ((hv.fgt k).kill k) (by rw [mget_fgtMem,mget_mdel'];exact (hm.kill k).fgt k)
    exact ⟨v',m',g',h1,h2,h3,(LeG.kill base g k).trans h4⟩
   ·exact ih h hv hm
  ·split at h
   ·exact ih h hv hm
   ·split at h
    ·exact ih h hv hm
    ·rw [mdelC_eq] at h
     obtain ⟨v',m',g',h1,h2,h3,h4⟩:=ih (g:=g.kill k) h (hv.kill k) (by rw [mget_mdel'];exact hm.kill k)
     exact ⟨v',m',g',h1,h2,h3,(LeG.kill base g k).trans h4⟩
mutual
def scA (lim : Nat) : AV → Bool
 | .own _ k _ _ _=>match Nat.beq (k % 2) 0 with|true=>Nat.blt k lim|false=>true
 | .ptr k _=>match Nat.beq (k % 2) 0 with|true=>Nat.blt k lim|false=>true
 | .rptr _ k _ _=>match Nat.beq (k % 2) 0 with|true=>Nat.blt k lim|false=>true
 | .mp k=>match Nat.beq (k % 2) 0 with|true=>Nat.blt k lim|false=>true
 | .agg cs=>scL lim cs
 | .tup cs=>scL lim cs
 | .clo _ a b=>match scL lim a with|true=>scL lim b|false=>false
 | _=>true
def scL (lim : Nat) : List AV → Bool
 | []=>true
 | c :: r=>match scA lim c with|true=>scL lim r|false=>false
end
def scM (lim : Nat) : Mem → Bool
 | []=>true
 | (k,b) :: r=>match (match Nat.beq (k % 2) 0 with|true=>Nat.blt k lim|false=>true) with
  | true=>match b with
   | .box cs=>match scL lim cs with|true=>scM lim r|false=>false
   | .row _ _=>scM lim r
   | .mp _ cs=>match scL lim cs with|true=>scM lim r|false=>false
   | .pm _ _ _=>scM lim r
  | false=>false
theorem scL_get {lim : Nat} {cs : List AV} (h : scL lim cs = true) {i : Nat} {c : AV} (hc : cs[i]? = some c) : scA lim c = true:=by
 induction cs generalizing i with
 | nil=>simp at hc
 | cons a r ih =>
  simp only [scL] at h
  cases ha : scA lim a with
  | false=>rw [ha] at h;cases h
  | true =>
   rw [ha] at h
   cases i with
   | zero=>simp at hc;subst hc;exact ha
   | succ i=>simp at hc;exact ih h hc
theorem sc_id {lim k : Nat} (h : (match Nat.beq (k % 2) 0 with|true=>Nat.blt k lim|false=>true) = true) : k < lim ∨ k % 2 = 1:=by
 cases he : Nat.beq (k % 2) 0 with
 | true=>rw [he] at h;exact .inl (Nat.le_of_ble_eq_true h)
 | false=>have:=nbf.1 he;omega
theorem sc_cells {t : Ty} {e : El t} {c : AV} (h : c ∈ cells t e) (lim : Nat) : scA lim c = true:=by
 cases t
 case boxM=>obtain ⟨f,e⟩:=e;cases f<;>simp [cells,bagM] at h<;>(repeat' (first|(subst h;rfl)|(rcases h with h|h)))
 all_goals simp [cells] at h<;>(repeat' (first|(subst h;rfl)|(rcases h with h|h)))
theorem sc_flat {t : Ty} {l : List (El t)} {i : Nat} {c : AV} (h : (flat t l)[i]? = some c) (lim : Nat) : scA lim c = true:=by
 have hm:=List.mem_of_getElem? h
 simp only [flat,List.mem_flatMap] at hm
 obtain ⟨e,_,hc⟩:=hm
 exact sc_cells hc lim
theorem Rep.lower {w : World} {g : G} {lim lim' : Nat} {v : AV} {x : Value} (h : Rep w g lim' v x) (hs : scA lim v = true) : Rep w g lim v x:=by
 induction h with
 | top x=>exact .top x
 | tt=>exact .tt
 | ff=>exact .ff
 | lit v=>exact .lit v
 | agg cs xs hl h ih=>exact .agg cs xs hl fun i c x hc hx=>ih i c x hc hx (scL_get (by simpa [scA] using hs) hc)
 | tup cs xs hl h ih=>exact .tup cs xs hl fun i c x hc hx=>ih i c x hc hx (scL_get (by simpa [scA] using hs) hc)
 | vecE t a cap=>exact .vecE t a cap
 | vec t l b o cap xs hc hr hw h ih=>exact .vec t l b o cap xs hc hr hw fun i c hi=>ih i c hi (sc_flat hi lim)
 | emp t a=>exact .emp t a
 | bl p q b hb1 hq1=>exact .bl p q b hb1 hq1
 | own t k off len b cap c hk hc hcc h=>exact .own t k off len b cap c (sc_id hs) hc hcc h
 | ownE t k off c ad hk hcc=>exact .ownE t k off c ad (sc_id hs) hcc
 | ptr k off b hk h=>exact .ptr k off b (sc_id hs) h
 | rptr t k i off b hk h=>exact .rptr t k i off b (sc_id hs) h
 | mp k b hk h=>exact .mp k b (sc_id hs) h
 | vptr t l i off b o xs hr hw h ih=>exact .vptr t l i off b o xs hr hw fun i c hi=>ih i c hi (sc_flat hi lim)
 | fecE j t a cap=>exact .fecE j t a cap
 | fec t l b o cap xs hc hr hg hw h ih=>exact .fec t l b o cap xs hc hr hg hw fun i c hi=>ih i c hi (sc_flat hi lim)
 | jec t l b o cap n hc hr hn=>exact .jec t l b o cap n hc hr hn
 | fptr t m i off b o n hr hn=>exact .fptr t m i off b o n hr hn
 | sl a n c=>exact .sl a n c
 | clo fn fs cs fs' cs' hl h hl' h' ih ih' =>
  have h1 : scL lim fs = true ∧ scL lim cs = true:=by
   simp only [scA] at hs
   cases hf : scL lim fs with
   | false=>rw [hf] at hs;cases hs
   | true=>rw [hf] at hs;exact ⟨rfl,hs⟩
  exact .clo fn fs cs fs' cs' hl (fun i c x hc hx=>ih i c x hc hx (scL_get h1.1 hc)) hl' (fun i c x hc hx=>ih' i c x hc hx (scL_get h1.2 hc))
theorem scM_get {lim : Nat} {m : Mem} (h : scM lim m = true) {k : Nat} {b : Blk} (hb : mget m k = some b) : (k < lim ∨ k % 2 = 1) ∧ (∀ cs,b = .box cs → scL lim cs = true) ∧ ∀ ks cs,b = .mp ks cs → scL lim cs = true:=by
 induction m with
 | nil=>simp [mget] at hb
 | cons p r ih =>
  obtain ⟨i,c⟩:=p
  simp only [scM] at h
  split at h
  case h_2=>cases h
  rename_i hi
  simp only [mget] at hb
  cases hk : Nat.beq i k with
  | true =>
   rw [hk] at hb
   cases hb
   have hik:=nbt.1 hk
   subst hik
   refine ⟨sc_id hi,?_,?_⟩
   ·intro cs hcs
    subst hcs
    simp only at h
    cases hc : scL lim cs with
    | true=>rfl
    | false=>rw [hc] at h;cases h
   ·intro ks cs hcs
    subst hcs
    simp only at h
    cases hc : scL lim cs with
    | true=>rfl
    | false=>rw [hc] at h;cases h
  | false =>
   rw [hk] at hb
   cases c with
   | row t l=>exact ih h hb
   | box cs =>
    simp only at h
    cases hc : scL lim cs with
    | true=>rw [hc] at h;exact ih h hb
    | false=>rw [hc] at h;cases h
   | mp ks cs =>
    simp only at h
    cases hc : scL lim cs with
    | true=>rw [hc] at h;exact ih h hb
    | false=>rw [hc] at h;cases h
   | pm ik F n=>exact ih h hb
theorem MSim.lower {w : World} {g : G} {lim lim' : Nat} {m : Mem} (h : MSim w g lim' (mget m)) (hs : scM lim m = true) : MSim w g lim (mget m):=by
 refine ⟨h.al,fun k hk=>?_,h.nro,h.inj,fun k b hb=>?_,h.rolt,h.nof,h.fj⟩
 ·obtain ⟨b,hb⟩:=Option.isSome_iff_exists.1 ((h.al k).1 hk)
  exact (scM_get hs hb).1
 ·have hb2:=h.blk k b hb
  have hsc:=(scM_get hs hb).2
  cases b with
  | box cs =>
   obtain ⟨h0,c,ty,h1,h2,h3,h4⟩:=hb2
   exact ⟨h0,c,ty,h1,h2,h3,fun i a x ha hx=>(h4 i a x ha hx).lower (scL_get (hsc.1 cs rfl) ha)⟩
  | mp ks cs =>
   obtain ⟨h0,hl,c,ty,h1,h2,h3,h4⟩:=hb2
   exact ⟨h0,hl,c,ty,h1,h2,h3,fun i a x ha hx=>(h4 i a x ha hx).lower (scL_get (hsc.2 ks cs rfl) ha)⟩
  | pm ik F n=>exact hb2
  | row t l =>
   rcases hb2 with h0|⟨h0,c,ty,h1,h2,h3,h4⟩
   ·exact .inl h0
   exact .inr ⟨h0,c,ty,h1,h2,h3,fun i a x ha hx=>(h4 i a x ha hx).lower (sc_flat ha lim)⟩
theorem MSim.raise {w : World} {g : G} {lim lim' : Nat} {m : Nat → Option Blk} (h : MSim w g lim m) (hl : lim ≤ lim') : MSim w g lim' m:=
 ⟨h.al,fun k hk=>by have:=h.lt k hk;omega,h.nro,h.inj,fun k b hb=>(h.blk k b hb).mono' ⟨fun _ h=>h,fun _ _=>rfl,.id⟩ hl (fun _=>rfl) fun _ _ _ ha=>⟨ha,rfl,rfl⟩,h.rolt,h.nof,h.fj⟩
def endK (P : Program) (lim : Nat) (rs : List ResultVar) (f : List AV) (m : Mem) (K : AV → Mem → Prop) : Prop:=
 resK P f m rs fun v=>keys m fun e o=>cleanK lim e v m fun v m=>cleanK lim o v m fun v m=>match scA lim v with
  | true=>match scM lim m with
   | true=>K v m
   | false=>False
  | false=>False
theorem keys_ok {m : Mem} {K : List Nat → List Nat → Prop} (h : keys m K) : ∃ e o,K e o:=by
 induction m generalizing K with
 | nil=>exact ⟨_,_,h⟩
 | cons p r ih =>
  obtain ⟨i,b⟩:=p
  simp only [keys] at h
  obtain ⟨e,o,h⟩:=ih h
  split at h
  ·exact ⟨_,_,h⟩
  ·exact ⟨_,_,h⟩
def bodyK (P : Program) (lim : Nat) (rs : List ResultVar) (K : AV → Mem → Prop) : Post:=fun e f m=>match e with
 | .normal=>endK P lim rs f m K
 | .ret=>endK P lim rs f m K
 | .exit _=>False
theorem endK_ok {P : Program} {base lim : Nat} {fn : Func} {f : List AV} {m : Mem} {K : AV → Mem → Prop} (h : endK P lim fn.results.toList f m K) {w : World} {g : G} {L' : Nat} {a : Act} (hs : Sim w g L' f (mget m) a) :
  ∃ v x m' g',K v m' ∧ (results fn a.tmps).run P w = .ok x w ∧ Rep w g' lim v x ∧ MSim w g' lim (mget m') ∧ LeG base g g':=by
 unfold endK at h
 obtain ⟨v,x,h,e1,e2⟩:=resK_ok h hs
 obtain ⟨e,o,h⟩:=keys_ok h
 obtain ⟨v1,m1,g1,h,r1,s1,l1⟩:=cleanK_ok base e h e2 hs.me
 obtain ⟨v2,m2,g2,h,r2,s2,l2⟩:=cleanK_ok base o h r1 s1
 split at h
 ·rename_i hv
  split at h
  ·rename_i hm
   exact ⟨v2,x,m2,g2,h,e1,r2.lower hv,s2.lower hm,l1.trans l2⟩
  ·exact h.elim
 ·exact h.elim
def undefs : Nat → List AV
 | 0=>[]
 | n + 1=>und :: undefs n
theorem undefs_eq (n : Nat) : undefs n = List.replicate n und:=by induction n with|zero=>rfl|succ n ih=>simp [undefs,ih,List.replicate_succ]
theorem calls_of_ev {P : Program} {C : Cfg2} (hC : Cfg2Ok P C) {fid : FuncId} {fn : Func} {c : Code} (hf : P.funcs[fid]? = some fn) (hb : fn.body = some c) {base nt : Nat} {args : List AV} {m : Mem} {K : AV → Mem → Prop}
  (hn : fn.ntmps - args.length = nt)
  (h : ev P C base c (bodyK P base fn.results.toList K) (args ++ undefs nt) m) {w : World} {g : G} {vs : Array Value} (hm : MSim w g base (mget m)) (ha : RepL w g base args vs) :
  Calls P fid vs w fun e w'=>∃ v x g' m',e = .returned x ∧ Rep w' g' base v x ∧ MSim w' g' base (mget m') ∧ Tr g w w' ∧ LeG base g g' ∧ K v m':=by
 refine calls_of_wp hf hb ?_
 have hsz : args.length = vs.size:=ha.1
 have hs : Sim w g (base + L) (args ++ undefs nt) (mget m) { tmps:=vs ++ Array.replicate (fn.ntmps - vs.size) undef,defers:=[] }:=by
  refine ⟨⟨by rw [undefs_eq];simp [hsz,← hn],fun i c x hc hx=>?_⟩,rfl,hm.raise (Nat.le_add_right _ _)⟩
  by_cases hi : i < args.length
  ·rw [List.getElem?_append_left hi] at hc
   rw [Array.getElem?_append_left (by omega)] at hx
   exact (ha.2 i c x hc hx).mono ⟨fun _ h=>h,fun _ _=>rfl,.id⟩ (Nat.le_add_right _ _) fun _ _ h=>⟨h,rfl,rfl⟩
  ·rw [List.getElem?_append_right (by omega),undefs_eq,List.getElem?_replicate] at hc
   rw [Array.getElem?_append_right (by omega),Array.getElem?_replicate] at hx
   split at hc
   ·split at hx
    ·simp at hc hx;subst hc;subst hx;exact .lit _
    ·cases hx
   ·cases hc
 refine Code.wp_mono (fun e a' w' hh=>?_) ((ev_ok hC c h).go w g _ hs)
 obtain ⟨ae,f',m',g',rfl,hq,hs',ht,hl⟩:=hh
 cases ae with
 | normal =>
  obtain ⟨v,x,m2,g2,hK,e1,e2,e3,e4⟩:=endK_ok (base:=base) hq hs'
  exact ⟨hs'.df,x,e1,v,x,g2,m2,rfl,e2,e3,ht,hl.trans e4,hK⟩
 | ret =>
  obtain ⟨v,x,m2,g2,hK,e1,e2,e3,e4⟩:=endK_ok (base:=base) hq hs'
  exact ⟨hs'.df,x,e1,v,x,g2,m2,rfl,e2,e3,ht,hl.trans e4,hK⟩
 | exit i=>exact hq.elim
theorem ICall.of_ev {P : Program} {C : Cfg2} (hC : Cfg2Ok P C) {fid : FuncId} {fn : Func} {c : Code} (hf : P.funcs[fid]? = some fn) (hb : fn.body = some c) {base nt : Nat} {args : List AV} {m : Mem} {K : AV → Mem → Prop}
  (hn : fn.ntmps - args.length = nt) (h : ev P C (base + L) c (bodyK P (base + L) fn.results.toList K) (args ++ undefs nt) m) : ICall P base fid args m K:=
 ⟨fun _ _ _ hm ha=>calls_of_ev hC hf hb hn h hm ha⟩
def Api (P : Program) (fid : FuncId) (args : List AV) (v : AV) : Prop:=
 ∀ (w : World) (g : G) (vs : Array Value),MSim w g 0 (mget []) → RepL w g 0 args vs →
  Calls P fid vs w fun e w'=>∃ x g',e = .returned x ∧ Rep w' g' 0 v x ∧ MSim w' g' 0 (mget []) ∧ Tr g w w' ∧ LeG 0 g g'
theorem Api.of_ev {P : Program} {C : Cfg2} (hC : Cfg2Ok P C) {fid : FuncId} {fn : Func} {c : Code} (hf : P.funcs[fid]? = some fn) (hb : fn.body = some c) {nt : Nat} {args : List AV} {v : AV}
  (hn : fn.ntmps - args.length = nt) (h : ev P C 0 c (bodyK P 0 fn.results.toList fun v' m=>Le v' v ∧ m = []) (args ++ undefs nt) []) : Api P fid args v:=by
 intro w g vs hm ha
 refine (calls_of_ev hC hf hb hn h hm ha).mono fun e w' ⟨v',x,g',m',e1,e2,e3,e4,e5,e6,e7⟩=>?_
 subst e7
 exact ⟨x,g',e1,e6 _ _ _ _ e2,e3,e4,e5⟩
mutual
def pureV : AV → Bool
 | .own _ _ _ _ _=>false
 | .ptr _ _=>false
 | .rptr _ _ _ _=>false
 | .mp _=>false
 | .agg cs=>pureL cs
 | .tup cs=>pureL cs
 | .clo _ a b=>match pureL a with|true=>pureL b|false=>false
 | _=>true
def pureL : List AV → Bool
 | []=>true
 | c :: r=>match pureV c with|true=>pureL r|false=>false
end
theorem pureL_get {cs : List AV} (h : pureL cs = true) {i : Nat} {c : AV} (hc : cs[i]? = some c) : pureV c = true:=by
 induction cs generalizing i with
 | nil=>simp at hc
 | cons a r ih =>
  simp only [pureL] at h
  cases ha : pureV a with
  | false=>rw [ha] at h;cases h
  | true =>
   rw [ha] at h
   cases i with
   | zero=>simp at hc;subst hc;exact ha
   | succ i=>simp at hc;exact ih h hc
theorem pure_cells {t : Ty} {e : El t} {c : AV} (h : c ∈ cells t e) : pureV c = true:=by
 cases t
 case boxM=>obtain ⟨f,e⟩:=e;cases f<;>simp [cells,bagM] at h<;>(repeat' (first|(subst h;rfl)|(rcases h with h|h)))
 all_goals simp [cells] at h<;>(repeat' (first|(subst h;rfl)|(rcases h with h|h)))
theorem pure_flat {t : Ty} {l : List (El t)} {i : Nat} {c : AV} (h : (flat t l)[i]? = some c) : pureV c = true:=by
 have hm:=List.mem_of_getElem? h
 simp only [flat,List.mem_flatMap] at hm
 obtain ⟨e,_,hc⟩:=hm
 exact pure_cells hc
theorem Rep.pureF {w w' : World} {g g' : G} {lim lim' : Nat} {v : AV} {x : Value} (h : Rep w g lim v x) (hp : pureV v = true) (hk : KeepsW w w' g g') (hF : nofV v = true ∨ KeepsF w w' g g') : Rep w' g' lim' v x:=by
 induction h with
 | top x=>exact .top x
 | tt=>exact .tt
 | ff=>exact .ff
 | lit v=>exact .lit v
 | agg cs xs hl h ih=>exact .agg cs xs hl fun i c x hc hx=>ih i c x hc hx (pureL_get (by simpa [pureV] using hp) hc) (hF.imp (fun h=>nofL_get h hc) fun h=>h)
 | tup cs xs hl h ih=>exact .tup cs xs hl fun i c x hc hx=>ih i c x hc hx (pureL_get (by simpa [pureV] using hp) hc) (hF.imp (fun h=>nofL_get h hc) fun h=>h)
 | vecE t a cap=>exact .vecE t a cap
 | vec t l b o cap xs hc hr hw h ih =>
  exact .vec t l b o cap xs hc (hk.ro b hr) (fun i c hi=>by rw [World.cell?_of_block (w:=w) (hk.same b hr)];exact hw i c hi) fun i c hi=>ih i c hi (pure_flat hi) (hF.imp (fun h=>nof_flat (nof_fB h) hi) fun h=>h)
 | emp t a=>exact .emp t a
 | bl p q b hb1 hq1=>exact .bl p q b hb1 hq1
 | own t k off len b cap c hkk hc hcc h=>cases hp
 | ownE t k off c ad hkk hcc=>cases hp
 | ptr k off b hkk h=>cases hp
 | rptr t k i off b hkk h=>cases hp
 | mp k b hkk h=>cases hp
 | vptr t l i off b o xs hr hw h ih =>
  rcases hF with hF|hF
  ·cases hF
  have hs : w'.heap[b]? = w.heap[b]?:=hr.elim (hk.same b) fun h=>(hF.fr b h).2
  exact .vptr t l i off b o xs (hr.imp (hk.ro b) fun h=>(hF.fr b h).1) (fun i c hi=>by rw [World.cell?_of_block (w:=w) hs];exact hw i c hi) fun i c hi=>ih i c hi (pure_flat hi) (.inr hF)
 | clo fn fs cs fs' cs' hl h hl' h' ih ih' =>
  have h1 : pureL fs = true ∧ pureL cs = true:=by
   simp only [pureV] at hp
   cases hf : pureL fs with
   | false=>rw [hf] at hp;cases hp
   | true=>rw [hf] at hp;exact ⟨rfl,hp⟩
  have hF2 : (nofL fs = true ∧ nofL cs = true) ∨ KeepsF w w' g g':=hF.imp (fun h=>by
   simp only [nofV] at h
   cases hf : nofL fs with
   | false=>rw [hf] at h;cases h
   | true=>rw [hf] at h;exact ⟨rfl,h⟩) fun h=>h
  exact .clo fn fs cs fs' cs' hl (fun i c x hc hx=>ih i c x hc hx (pureL_get h1.1 hc) (hF2.imp (fun h=>nofL_get h.1 hc) fun h=>h)) hl' (fun i c x hc hx=>ih' i c x hc hx (pureL_get h1.2 hc) (hF2.imp (fun h=>nofL_get h.2 hc) fun h=>h))
 | fecE j t a cap=>exact .fecE j t a cap
 | fec t l b o cap xs hc hr hg hw h ih =>
  rcases hF with hF|hF
  ·cases hF
  exact .fec t l b o cap xs hc (hF.fr b hr).1 ((hF.fn b hr).trans hg) (fun i c hi=>by rw [World.cell?_of_block (w:=w) (hF.fr b hr).2];exact hw i c hi) fun i c hi=>ih i c hi (pure_flat hi) (.inr hF)
 | jec t l b o cap n hc hr hn =>
  rcases hF with hF|hF
  ·cases hF
  exact .jec t l b o cap n hc (hF.jd b n hr) hn
 | fptr t m i off b o n hr hn =>
  rcases hF with hF|hF
  ·cases hF
  exact .fptr t m i off b o n (hF.jd b n hr) hn
 | sl a n c=>exact .sl a n c
theorem Rep.pure {w w' : World} {g g' : G} {lim lim' : Nat} {v : AV} {x : Value} (h : Rep w g lim v x) (hp : pureV v = true) (hk : Keeps w w' g g') : Rep w' g' lim' v x:=h.pureF hp hk.w (.inr hk.f)
def dataL (cs : List AV) : Bool:=match pureL cs with|true=>nofL cs|false=>false
theorem dataL_pure {cs : List AV} (h : dataL cs = true) : pureL cs = true ∧ nofL cs = true:=by
 unfold dataL at h
 cases hp : pureL cs with
 | false=>rw [hp] at h;cases h
 | true=>rw [hp] at h;exact ⟨rfl,h⟩
theorem Api.cact {P : Program} {fid : FuncId} {args : List AV} {v : AV} (h : Api P fid args v) (ha : dataL args = true) (hv : pureV v = true) (base : Nat) : CAct P base fid args (vA v):=by
 refine ⟨fun m _ w g vs hm hr=>?_⟩
 let g0 : G:={ ro:=g.ro,no:=fun b=>g.no b ∨ (∃ k,g.al k ∧ 0 < g.sz k ∧ g.be k = b) ∨ (g.fr b ∨ ∃ n,g.jd b n),al:=fun _=>False,be:=id,sz:=id,fr:=fun _=>False,jd:=fun _ _=>False,fn:=fun _=>False }
 have hm0 : MSim w g0 0 (mget []):=⟨fun k=>by simp [g0,mget],fun k hk=>hk.elim,fun k hk=>hk.elim,fun k j hk=>hk.elim,fun k b hb=>by simp [mget] at hb,hm.rolt,fun b hb=>by
  rcases hb with hb|⟨k,hk,hz,rfl⟩|hb
  ·exact ⟨(hm.nof b hb).1,(hm.nof b hb).2.1,fun k hk=>hk.elim⟩
  ·exact ⟨hm.lt_heap hk hz,hm.nro k hk hz,fun k hk=>hk.elim⟩
  ·exact ⟨hm.fj.lt hb,(hm.fj.nro b hb).1,fun k hk=>hk.elim⟩,FJ.none (fun _ h=>h) (fun _ _ h=>h)⟩
 have hr0 : RepL w g0 0 args vs:=⟨hr.1,fun i c x hc hx=>(hr.2 i c x hc hx).pureF (pureL_get (dataL_pure ha).1 hc) ⟨fun _ h=>h,fun _ _=>rfl⟩ (.inl (nofL_get (dataL_pure ha).2 hc))⟩
 refine (h w g0 vs hm0 hr0).mono fun e w' ⟨x,g',e1,e2,e3,e4,e5⟩=>?_
 let g2 : G:={ ro:=g'.ro,no:=g.no,al:=g.al,be:=g.be,sz:=g.sz,fr:=fun b=>g.fr b ∨ g'.fr b,jd:=fun b n=>g.jd b n ∨ g'.jd b n,fn:=fun b=>(g.fr b ∧ g.fn b) ∨ (¬ g.fr b ∧ g'.fn b) }
 have hbe : ∀ k,g.al k → 0 < g.sz k → w'.heap[g.be k]? = w.heap[g.be k]?:=fun k hk hz=>e4.others _ (.inr (.inl ⟨k,hk,hz,rfl⟩))
 have hkeep : Keeps w w' g g2:=⟨e5.ro,e4.same,fun b hb=>⟨.inl hb,e4.others b (.inr (.inr (.inl hb)))⟩,fun b n hb=>.inl hb,fun b hb=>⟨fun h=>h.elim (fun h=>h.2) (fun h=>absurd hb h.1),fun h=>.inl ⟨hb,h⟩⟩⟩
 refine ⟨x,g2,e1,e2.pure hv ⟨fun _ h=>h,fun _ _=>rfl,fun _ h=>⟨.inr h,rfl⟩,fun _ _ h=>.inr h,fun b hb=>⟨fun h=>h.elim (fun h=>absurd (e5.no b (.inr (.inr (.inl h.1)))) (e3.fj.nro b (.inl hb)).2) (fun h=>h.2),fun h=>.inr ⟨fun hf=>(e3.fj.nro b (.inl hb)).2 (e5.no b (.inr (.inr (.inl hf)))),h⟩⟩⟩,?_,⟨e4.os,e4.tape,e4.output,e4.size,e4.same,fun b hb=>e4.others b (.inl hb)⟩,⟨e5.ro,fun _ h=>h,fun _ _ ha=>⟨ha,rfl,rfl⟩⟩,fun fr xs hfr=>?_⟩
 ·refine ⟨hm.al,hm.lt,fun k hk hz hro=>?_,hm.inj,fun k b hb=>?_,e3.rolt,fun b hb=>?_,hm.fj.join e3.fj (fun b hb=>e4.others b (.inr (.inr hb))) (fun b hb=>e5.no b (.inr (.inr hb))) (fun b hb=>?_) fun b hb k hk hz=>?_⟩
  ·exact (e3.nof _ (e5.no _ (.inr (.inl ⟨k,hk,hz,rfl⟩)))).2.1 hro
  ·have hal:=(hm.al k).2 (by simp only [vA,Act1.me,fgtsM,putsM] at hb;simp [hb])
   exact (hm.blk k b hb).mono' hkeep (Nat.le_refl _) (hbe k hal) fun _ _ _ ha=>⟨ha,rfl,rfl⟩
  ·have hn:=e3.nof b (e5.no b (.inl hb))
   exact ⟨hn.1,hn.2.1,(hm.nof b hb).2.2⟩
  ·rcases hb with hb|hb
   ·exact ⟨(e3.nof b (e5.no b (.inr (.inr hb)))).2.1,(hm.fj.nro b hb).2⟩
   ·exact ⟨(e3.fj.nro b hb).1,fun hn=>(e3.fj.nro b hb).2 (e5.no b (.inl hn))⟩
  ·rcases hb with hb|hb
   ·exact hm.fj.nal b hb k hk hz
   ·exact fun e=>(e3.fj.nro b hb).2 (e ▸ e5.no _ (.inr (.inl ⟨k,hk,hz,rfl⟩)))
 ·exact hfr.mono hkeep (Nat.le_refl _) fun _ _ ha=>⟨ha,rfl,rfl⟩
theorem Le.tt {b : Bool} (h : b = true) : Le .tt (.lit (.bool b)):=fun _ _ _ _ hr=>by subst h;cases hr;exact .lit _
theorem Le.ff {b : Bool} (h : b = false) : Le .ff (.lit (.bool b)):=fun _ _ _ _ hr=>by subst h;cases hr;exact .lit _
theorem Le.lit {x y : Value} (h : x = y) : Le (.lit x) (.lit y):=by subst h;exact Le.refl _
theorem Le.bool {a b : Bool} (h : a = b) : Le (.lit (.bool a)) (.lit (.bool b)):=by subst h;exact Le.refl _
theorem Le.int {k : IntKind} {a b : Int} (h : a = b) : Le (.lit (.int k a)) (.lit (.int k b)):=by subst h;exact Le.refl _
theorem callApi {P : Program} {base : Nat} {fid : FuncId} {args : List AV} {v : AV} (h : Api P fid args v) {f : List AV} {m : Mem} {d : Option Nat} {K : List AV → Mem → Prop} {J : Prop}
  (ha : dataL args = true) (hv : pureV v = true) (hK : applyK (vA v) f m d K) : (∃ c : Act1,(∀ p ∈ c.rd,mget m p.1 = some p.2) ∧ CAct P base fid args c ∧ applyK c f m d K) ∨ J:=
 .inl ⟨vA v,by simp [vA],h.cact ha hv base,hK⟩
end Eng
