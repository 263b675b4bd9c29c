/- tick.Sorted, tick.Fold; homesteadlaw17.awake. -/
import Derived.Test.YtkojlembanldcaaGreatGc
import Derived.Shelf.SlSortCmp.NoneTotal
import Derived.Test.YtkojlembanldcaaGreatRe
import Derived.Test.YtkojlembanldcaaGreatGh
import Derived.Shelf.SlLaysF0
import Derived.Test.YtkojlembanldcaaGreatGj
set_option linter.unusedSimpArgs false
set_option linter.unusedVariables false
set_option maxRecDepth 100000
set_option maxHeartbeats 16000000
namespace Eng
open Go Go.RowKit Go.Shelf Go.Sort Go.Lib Go.Proofs
def fk (o : ay) : List Value:=[.int .i64 o.player,.int .i64 o.seq,.int .u8 o.cmd.dol,.int .i64 o.cmd.a,.int .i64 o.cmd.b,.int .i64 o.cmd.c,.int .i64 o.cmd.n]
instance : Inhabited ay:=⟨dO .order⟩
def vm (w : World) : G:={ ro:=fun b=>b < w.heap.size,no:=fun _=>False,al:=fun _=>False,be:=id,sz:=id }
theorem JA (w : World) : aU w (vm w) 0 (af []):=
 ⟨fun k=>by simp [vm,af],fun k hk=>hk.elim,fun k hk=>hk.elim,fun k j hk=>hk.elim,fun k b hb=>by simp [af] at hb,fun b hb=>hb,fun b hb=>hb.elim⟩
theorem AY {w w' : World} {g : G} (hg : ∀ b,b < w.heap.size → g.ro b) (ht : Tr g w w') : ∃ q os',w' = grow (w.drewN q) os':=by
 refine ⟨w'.drawn - w.drawn,w'.heap.extract w.heap.size w'.heap.size,?_⟩
 obtain ⟨h1,h2,h3,⟨h4,h5⟩,h6,_⟩:=ht
 have hh : w'.heap = w.heap ++ w'.heap.extract w.heap.size w'.heap.size:=by
  apply Array.ext_getElem?
  intro i
  rw [Array.getElem?_append]
  split
  ·rename_i hi;exact h6 i (hg i hi)
  ·rename_i hi
   by_cases hlt : i < w'.heap.size
   ·rw [Array.getElem?_extract,if_pos (by omega)]
    congr 1;omega
   ·rw [Array.getElem?_eq_none (by omega),Array.getElem?_eq_none (by rw [Array.size_extract];omega)]
 have hd : w.drawn + (w'.drawn - w.drawn) = w'.drawn:=by omega
 obtain ⟨a1,a2,a3,a4,a5⟩:=w'
 obtain ⟨b1,b2,b3,b4,b5⟩:=w
 simp only [World.drewN,grow] at *
 subst h1 h2 h3
 rw [← hh,hd]
theorem wF (w : World) (g : G) (lim : Nat) (vs : List Value) : Rep w g lim (.agg (vs.map .lit)) (.agg vs.toArray):=by
 refine .agg _ _ (by simp) fun i c x hc hx=>?_
 rw [List.getElem?_map] at hc
 rw [List.getElem?_toArray] at hx
 rw [hx] at hc
 cases hc
 exact .lit _
theorem DL {P : Program} {fid : FuncId} {cf : ay → ay → Int} (h : ∀ x y : ay,Api P fid [.agg (cells .order x),.agg (cells .order y)] (i64 (cf x y))) (blk off size : Nat) (w : World) :
  CmpLays P fid #[] fk 7 cf blk off size w:=by
 intro m os dk _ x y
 generalize sortWorldK fk 7 w blk off m dk os = W
 rw [Array.append_empty]
 have r1:=wF W (vm W) 0 (fk x)
 have r2:=wF W (vm W) 0 (fk y)
 have hr : au W (vm W) 0 [.agg (cells .order x),.agg (cells .order y)] #[.agg (fk x).toArray,.agg (fk y).toArray]:=by
  refine ⟨rfl,fun i c v hc hv=>?_⟩
  match i,hc,hv with
  | 0,hc,hv=>cases Option.some.inj hc;cases Option.some.inj hv;exact r1
  | 1,hc,hv=>cases Option.some.inj hc;cases Option.some.inj hv;exact r2
  | i + 2,hc,hv=>cases hc
 refine (h x y W (vm W) _ (JA W) hr).mono ?_
 rintro e w' ⟨v,g',e1,e2,_,e4,_⟩
 refine ⟨?_,AY (fun b hb=>hb) e4⟩
 rw [e1]
 have : v = .int .i64 (cf x y):=aR e2
 rw [this]
theorem wG (l : List ay) (j : Nat) (hj : j < l.length * 7) : ∃ e,l[j / 7]? = some e ∧ (aB .order l)[j]? = some (.lit (fk e)[j % 7]!):=by
 have h1 : j / 7 < l.length:=by omega
 refine ⟨l[j / 7],List.getElem?_eq_getElem h1,?_⟩
 have h2:=jF .order l (j / 7) l[j / 7] (List.getElem?_eq_getElem h1) (j % 7) (by show j % 7 < 7;omega)
 rw [show j / 7 * csz .order + j % 7 = j from by show j / 7 * 7 + j % 7 = j;omega] at h2
 rw [h2]
 have h3 : j % 7 < 7:=by omega
 generalize l[j / 7] = e
 generalize j % 7 = r at h3
 match r,h3 with
 | 0,_=>rfl
 | 1,_=>rfl
 | 2,_=>rfl
 | 3,_=>rfl
 | 4,_=>rfl
 | 5,_=>rfl
 | 6,_=>rfl
theorem wH (l : List ay) (j : Nat) (hj : j < l.length * 7) (e : ay) (he : l[j / 7]? = some e) : (flatK fk 7 l.toArray)[j]! = (fk e)[j % 7]!:=by
 rw [get_flatK _ _ _ _ (by simpa using hj)]
 have h1 : (l.toArray)[j / 7]! = e:=by
  rw [getElem!_def]
  simp [he]
 rw [h1]
theorem zN {P : Program} {ρ : Ren} (Ly : SlLaysF0.n6 P ρ) (aE : ∀ w,(isAgg (ρ.t 24)).run P w = .ok true w) (zE : ∀ w,(Go.sizeOf (ρ.t 24)).run P w = .ok 7 w)
  {fid : FuncId} (eg : ∀ args w,(callFunc fid args).run P w = .ok (.enter fid args) w) {cf : ay → ay → Int} (hO : SWO (ltOf cf)) (hT : ∀ x y,(ltOf cf) x y = false → (ltOf cf) y x = false → x = y)
  (hc : ∀ x y : ay,Api P fid [.agg (cells .order x),.agg (cells .order y)] (i64 (cf x y))) (l : List ay) (hn : l.length < 4611686018427387904) (c : Option Nat) :
  Ev1 P (ρ.f 6) [.own .order 1 0 l.length c,.lit (.func (.func fid) #[] #[])] [(1,.row .order l)] und [(1,.row .order (l.mergeSort fun x y=>!(ltOf cf) y x))]:=by
 intro w g vs hm ha
 have hsz : vs.size = 2:=ha.1.symm
 obtain ⟨v1,v2,rfl⟩ : ∃ v1 v2,vs = #[v1,v2]:=⟨vs[0],vs[1],by apply Array.ext;exact hsz;intro i h1 h2;match i,h2 with|0,_=>rfl|1,_=>rfl⟩
 have r1:=ha.2 0 _ v1 rfl rfl
 have r2:=ha.2 1 _ v2 rfl rfl
 have hv2 : v2 = .func (.func fid) #[] #[]:=aR r2
 subst hv2
 have hlen : (l.mergeSort fun x y=>!(ltOf cf) y x).length = l.length:=List.length_mergeSort _
 have none : l = [] → ∀ (p : Option Addr) (cap : Nat),v1 = .slice p 0 cap → Calls P (ρ.f 6) #[v1,.func (.func fid) #[] #[]] w fun e w'=>∃ x g',e = .returned x ∧ Rep w' g' L und x ∧ aU w' g' L (af [(1,.row .order (l.mergeSort fun x y=>!(ltOf cf) y x))]) ∧ Tr g w w' ∧ LeG L g g':=by
  intro hl p cap hv
  subst hl
  rw [hv]
  refine (AnyF.slices_SortFunc_none Ly p cap _ w).mono ?_
  rintro e w' ⟨rfl,rfl⟩
  refine ⟨_,g,rfl,.lit _,?_,Tr.refl g w',LeG.refl L g⟩
  rw [List.mergeSort_nil]
  exact hm
 generalize hlv : l.length = len at r1
 cases r1 with
 | ownE t k off c ad hk hcc=>exact none (List.eq_nil_of_length_eq_zero hlv) _ _ rfl
 | own t k off len b cap c hkl hcap hcc hal =>
  by_cases hl0 : len = 0
  ·refine none (List.eq_nil_of_length_eq_zero (by omega)) (some ⟨b,0 * csz .order,Option.none⟩) cap ?_
   rw [hl0]
  ·have hga : g.al 1:=(hm.al 1).2 rfl
   obtain ⟨hb,hfit⟩:=hal hga
   subst hb
   have hblk:=hm.blk 1 (.row .order l) rfl
   have hle:=hblk.le
   have hzp : 0 < g.sz 1:=by
    have : len * csz .order ≤ g.sz 1:=by rw [← hlv];exact hle
    have h7 : csz .order = 7:=rfl
    rw [h7] at this
    omega
   obtain ⟨c0,ty0,b1,b2,b3,b4⟩:=hblk.getRow hzp
   have hfl : (aB .order l).length = l.length * 7:=aM _ _
   have hcell : ∀ j,j < l.length * 7 → c0[j]? = some (flatK fk 7 l.toArray)[j]!:=fun j hj=>by
    obtain ⟨e,h1,h2⟩:=wG l j hj
    have hlt : j < c0.size:=by omega
    have h3:=b4 j _ c0[j] h2 (Array.getElem?_eq_getElem hlt)
    rw [Array.getElem?_eq_getElem hlt,wH l j hj e h1,aR h3]
   have hH : HoldsK fk 7 w (g.be 1) 0 l.toArray:=by
    intro j hj
    have hj' : j < l.length * 7:=by simpa using hj
    rw [Nat.zero_add]
    refine ⟨?_,frozen_of_row w (g.be 1) j c0 ty0 b1⟩
    rw [cell_of_row w (g.be 1) j c0 ty0 (0,0) b1,hcell j hj']
    rfl
   have hin : g.be 1 < w.heap.size:=hblk.in hzp
   have hz0 : (0 : Nat) * csz .order = 0:=Nat.zero_mul _
   rw [hz0]
   have hcon:=AnyQ.slices_SortFunc_total Ly 7 aE zE fk (fun _=>rfl) (fun x v hv=>by simp [fk] at hv;rcases hv with rfl|rfl|rfl|rfl|rfl|rfl|rfl<;>rfl) cf hO fid #[] (g.be 1) 0 cap l.toArray w eg (DL hc _ _ _ w) hH hin (by simpa using hn) hT
   rw [show l.toArray.size = len from by simpa using hlv] at hcon
   refine hcon.mono ?_
   rintro e w' ⟨rfl,n,os,rfl⟩
   rw [show l.toArray.toList = l from rfl]
   generalize (l.mergeSort fun x y=>!(ltOf cf) y x) = d' at hlen
   -- the world behind it
   have hother : ∀ k,k < w.heap.size → k ≠ g.be 1 → (sortWorldK fk 7 w (g.be 1) 0 n d'.toArray os).heap[k]? = w.heap[k]?:=fun k hk hne=>by
    unfold sortWorldK grow putRowK putRow mapBlock Sort.ahead
    simp only
    rw [Array.getElem?_append_left (by simpa using hk),Array.getElem?_modify,if_neg (fun e=>hne e.symm)]
   have hat : (sortWorldK fk 7 w (g.be 1) 0 n d'.toArray os).heap[g.be 1]? = some (.cells (putCells id 0 (flatK fk 7 d'.toArray) c0) ty0 (0,0)):=by
    unfold sortWorldK grow putRowK putRow mapBlock Sort.ahead
    simp only
    rw [Array.getElem?_append_left (by simpa using hin),Array.getElem?_modify,if_pos rfl,b1]
    rfl
   have hsize : w.heap.size ≤ (sortWorldK fk 7 w (g.be 1) 0 n d'.toArray os).heap.size:=by
    unfold sortWorldK grow putRowK putRow mapBlock Sort.ahead
    simp
   have hdr : (sortWorldK fk 7 w (g.be 1) 0 n d'.toArray os).drawn = w.drawn + n:=rfl
   have hos : (sortWorldK fk 7 w (g.be 1) 0 n d'.toArray os).os = w.os:=rfl
   have htp : (sortWorldK fk 7 w (g.be 1) 0 n d'.toArray os).tape = w.tape:=rfl
   have hou : (sortWorldK fk 7 w (g.be 1) 0 n d'.toArray os).output = w.output:=rfl
   generalize sortWorldK fk 7 w (g.be 1) 0 n d'.toArray os = W at *
   have hro : ∀ b,g.ro b → W.heap[b]? = w.heap[b]?:=fun b hr=>hother b (hm.rolt b hr) (fun e=>hm.nro 1 hga hzp (e ▸ hr))
   refine ⟨_,g,rfl,.lit _,?_,⟨hos,htp,hou,⟨hsize,by omega⟩,hro,fun b hb=>hother b (hm.nof b hb).1 (fun e=>(hm.nof b hb).2.2 1 hga hzp e.symm)⟩,LeG.refl L g⟩
   have hmem : af [(1,Blk.row .order d')] = put (af [(1,Blk.row .order l)]) 1 (some (.row .order d')):=by
    funext i
    simp only [put,af]
    by_cases hi : 1 = i
    ·rw [if_pos hi,nbt.2 hi]
    ·rw [if_neg hi,nbf.2 hi]
   rw [hmem]
   refine hm.write hga hzp _ hsize (fun b hb hlt=>hother b hlt hb) ?_
   refine bv.mkRow ⟨_,ty0,hat,by simp [putCells,b2],by rw [aM,hlen];rw [aM] at b3;exact b3,fun i a x hi hx=>?_⟩
   have hi7 : i < d'.length * 7:=by
    have:=(List.getElem?_eq_some_iff.1 hi).1
    rw [aM] at this;exact this
   obtain ⟨e,h1,h2⟩:=wG d' i hi7
   rw [h2] at hi
   cases hi
   unfold putCells at hx
   rw [Array.getElem?_mapIdx] at hx
   have hic : i < c0.size:=by omega
   rw [Array.getElem?_eq_getElem hic,Option.map_some,if_pos ⟨Nat.zero_le _,by simpa using hi7⟩,Nat.sub_zero,id,wH d' i hi7 e h1] at hx
   cases hx
   exact .lit _
open Go Go.RowKit
def atE (is : List Nat) (f : List AV) (m : Mem) (es : List AV) (m1 : Mem) : Prop:=tj f is fun cs=>cs = es ∧ m = m1
theorem F0 {is : List Nat} {f f0 : List AV} {m : Mem} {es : List AV} {m1 : Mem} (h : atE is f m es m1) (hl : f.length = f0.length) {w : World} {g : G} {lim : Nat} {a : Act} (hs : Sim w g lim f (af m) a) :
  Sim w g lim (sets (gN f0) is es) (af m1) a:=by
 unfold atE at h
 rw [xN] at h
 obtain ⟨h1,rfl⟩:=h
 have h3 : au w g lim es (is.map fun i=>(a.tmps[i]?).getD undef).toArray:=by
  rw [← h1]
  refine ⟨by simp,fun k c x hc hx=>?_⟩
  simp only [List.getElem?_map,Option.map_eq_some_iff] at hc
  obtain ⟨i,hi,rfl⟩:=hc
  simp [hi] at hx
  subst hx
  have hll:=hs.fr.1
  by_cases hlt : i < a.tmps.size
  ·rw [Array.getElem?_eq_getElem hlt,List.getElem?_eq_getElem (by omega)]
   exact hs.fr.2 i _ _ (List.getElem?_eq_getElem (by omega)) (Array.getElem?_eq_getElem hlt)
  ·rw [Array.getElem?_eq_none (by omega),List.getElem?_eq_none (by omega)]
   exact .lit _
 exact ⟨au.sets is ⟨by rw [j0,← hl];exact hs.fr.1,fun i x c hc _=>by rw [ss hc];exact .top _⟩ h3 (fun k i hk hi=>by simp [hk,hi]),hs.df,hs.me⟩
theorem ap.loopE {P : Program} {C : dC} (hC : di P C) {base : Nat} {c : Code} {Q : iH} {f : List AV} {m : Mem} {σ : Type} (is : List Nat) (S : σ → List AV) (M : σ → Mem) (inv : σ → Prop) (rank : σ → Nat) (s0 : σ)
  (hi : inv s0) (h0 : atE is f m (S s0) (M s0))
  (round : ∀ s,inv s → qC f fun f0=>nP f0 is (S s) fun f1=>ev P C base c (fun e f' m'=>match e with
   | .normal=>match mD f' f0 with
    | true=>uM inv (fun s'=>rank s' < rank s) (fun s'=>atE is f' m' (S s') (M s'))
    | false=>False
   | e=>Q e f' m') f1 (M s)) : ap P base (.loop c) Q f m:=by
 refine ⟨fun w g a hs=>?_⟩
 have hs0:=F0 (f0:=f) h0 rfl hs
 refine pz (fun n a' w'=>∃ s g',inv s ∧ rank s = n ∧ Sim w' g' (base + L) (sets (gN f) is (S s)) (af (M s)) a' ∧ Tr g w w' ∧ LeG base g g') (rank s0) ⟨s0,g,hi,rfl,hs0,Tr.refl g w,LeG.refl base g⟩ ?_
 intro n1 a1 w1 hh
 obtain ⟨s,g1,hI1,rfl,hs1,ht1,hl1⟩:=hh
 have hr:=round s hI1
 rw [sr,xM] at hr
 refine Code.wp_mono (fun e a2 w2 hh=>?_) ((tz hC c hr).go w1 g1 a1 hs1)
 obtain ⟨ae,f2,m2,g2,rfl,hq,hs2,ht2,hl2⟩:=hh
 cases ae with
 | normal =>
  simp only at hq
  cases hsl : mD f2 (gN f) with
  | false=>rw [hsl] at hq;exact hq.elim
  | true =>
   rw [hsl] at hq
   rcases hq with ⟨s',hi',hlt,hat⟩|hq
   case no=>exact hq.elim
   have hs3:=F0 (f0:=f) hat (by rw [sq hsl,j0]) hs2
   exact ⟨rank s',hlt,s',g2,hi',rfl,hs3,ht1.trans hl1 ht2,hl1.trans hl2⟩
 | exit i=>exact ⟨.exit i,f2,m2,g2,rfl,hq,hs2,ht1.trans hl1 ht2,hl1.trans hl2⟩
 | ret=>exact ⟨.ret,f2,m2,g2,rfl,hq,hs2,ht1.trans hl1 ht2,hl1.trans hl2⟩
end Eng
namespace Go.Proofs.YtkojlembanldcaaGreat
open Go Go.RowKit Eng
theorem zO (n : Int) : Api Tryz.prog 182 [.lit (.int .u8 n)] .ff:=by
 refine aF Tryz.func182 5 ?_
 exact fD0
theorem zP (a b : Int) : Api Tryz.prog 106 [.lit (.int .u8 a),.lit (.int .u8 b)] (i64 (bX a b)):=by
 refine aF Tryz.func106 18 ?_
 conv=>whnf
 repeat' (first|exact trivial|((first|refine kL ?_|(refine ⟨fun hb=>?_,fun hb=>?_⟩<;>(try simp only [nrm] at hb)<;>try exact kZ hb)|(refine isE 182 ?_;refine kA (zO _) ?_)|(refine isD 182 ?_;refine kD (zO _) ?_)|refine kV ?_)<;>(conv=>whnf))|refine kY ?_ ?_)
 all_goals (refine congrArg (Value.int _) ?_;unfold bX;(repeat' split)<;>omega)
def orL : List Int → Int
 | []=>0
 | a :: r=>if a = 0 then orL r else a
theorem F1 (l : List (El .i64)) (hl : l.length ≤ 1000) : Ev1 Tryz.prog 104 [.own .i64 1 0 l.length (some l.length)] [(1,.row .i64 l)] (i64 (orL l)) [(1,.row .i64 l)]:=by
 refine eF Tryz.func104 17 ?_
 conv=>whnf
 refine ap.loopS ah (σ:=Nat) [3,6,7,8] (fun k=>[i64 0,.own .i64 1 0 l.length none,i64 l.length,i64 k]) (fun _=>[(1,.row .i64 l)]) (fun k=>k ≤ l.length ∧ orL (l.drop k) = orL l) (fun k=>l.length - k) 0 ⟨by omega,rfl⟩ ?_ ?_
 ·exact fD0
 ·rintro k ⟨hk,he⟩
  by_cases hlt : k < l.length
  ·rw [aY (t:=.i64) hlt] at he
   simp only [orL] at he
   conv=>whnf
   repeat' (first|exact trivial|((first|(refine ⟨fun hb=>?_,fun hb=>?_⟩<;>(try simp only [nrm] at hb)<;>try exact kZ hb)|refine kV ?_)<;>(conv=>whnf))|refine kY ?_ ?_)
   ·have hb' : ¬ elt .i64 l k = 0:=by simpa using hb
    rw [if_neg hb'] at he
    rw [← he];simp
   ·have hb' : elt .i64 l k = 0:=by simpa using hb
    rw [if_pos hb'] at he
    refine .to (k + 1) ⟨hlt,he⟩ (by omega) ?_
    exact fD0
  ·obtain rfl : k = l.length:=by omega
   rw [List.drop_length] at he
   conv=>whnf
   repeat' (first|exact trivial|((first|(refine ⟨fun hb=>?_,fun hb=>?_⟩<;>(try simp only [nrm] at hb)<;>try exact kZ hb)|refine kV ?_)<;>(conv=>whnf))|refine kY ?_ ?_)
   all_goals first|(rw [← he];rfl)|exact List.take_length|trace_state
theorem DM (x y : ay) : Api Tryz.prog 103 [.agg (cells .order x),.agg (cells .order y)] (i64 (HZ x y)):=by
 refine aF Tryz.func103 46 ?_
 conv=>whnf
 repeat' (first|exact trivial|((first|refine kL ?_|(refine ⟨fun hb=>?_,fun hb=>?_⟩<;>(try simp only [nrm] at hb)<;>try exact kZ hb)|(refine isE 104 ?_;refine kR (F1 [bX x.player y.player,bX x.seq y.seq,bX x.cmd.dol y.cmd.dol,bX x.cmd.a y.cmd.a,bX x.cmd.b y.cmd.b,bX x.cmd.c y.cmd.c,bX x.cmd.n y.cmd.n] (by simp)) [(1,93)] rfl ?_)|(refine isD 104 ?_;refine kS (F1 [bX x.player y.player,bX x.seq y.seq,bX x.cmd.dol y.cmd.dol,bX x.cmd.a y.cmd.a,bX x.cmd.b y.cmd.b,bX x.cmd.c y.cmd.c,bX x.cmd.n y.cmd.n] (by simp)) [(1,93)] rfl ?_)|(refine isE 105 ?_;refine kA (fl _ _) ?_)|(refine isD 105 ?_;refine kD (fl _ _) ?_)|(refine isE 106 ?_;refine kA (zP _ _) ?_)|(refine isD 106 ?_;refine kD (zP _ _) ?_)|refine kV ?_)<;>(conv=>whnf))|refine kY ?_ ?_)
 all_goals first|rfl|trace_state
theorem zQ (x y : ay) : Api Tryz.prog 108 [.agg (cells .order x),.agg (cells .order y)] (bol (ej x y)):=by
 refine aF Tryz.func108 15 ?_
 conv=>whnf
 repeat' (first|exact trivial|((first|(refine ⟨fun hb=>?_,fun hb=>?_⟩<;>(try simp only [nrm] at hb)<;>try exact kZ hb)|refine kV ?_)<;>(conv=>whnf))|refine kY ?_ ?_)
 ·unfold ej;rw [decide_eq_true hb,Bool.true_and];rfl
 ·unfold ej;rw [decide_eq_false hb,Bool.false_and]
theorem F2 {l : List ay} {s : Nat} (h : ∀ k,0 < k → k < s → ej (elt .order l k) (elt .order l (k - 1)) = false) (hs : s ≤ l.length) : dR (l.take s) = l.take s:=by
 induction s with
 | zero=>rfl
 | succ s ih =>
  by_cases h0 : s = 0
  ·subst h0
   cases l with
   | nil=>rfl
   | cons x r=>rfl
  ·rw [qh (by omega) (by omega) (ar .order l s (by omega)) (ar .order l (s - 1) (by omega)),ih (fun k a b=>h k a (by omega)) (by omega),h s (by omega) (by omega),List.take_add_one,ar .order l s (by omega)]
   rfl
abbrev kg : AV:=.lit (.func (.func 108) #[] #[])
theorem DN (l : List (El .order)) (hl : l.length ≤ 4000000000000) : Ev1 Tryz.prog 107 [.own .order 1 0 l.length none,kg] [(1,.row .order l)] (.vec .order (dR l)) []:=by
 refine eF Tryz.func107 64 ?_
 conv=>whnf
 repeat' (first|exact trivial|((first|(refine ⟨fun hb=>?_,fun hb=>?_⟩<;>(try simp only [nrm] at hb)<;>try exact kZ hb)|refine kV ?_)<;>(conv=>whnf))|refine kY ?_ ?_)
 ·rw [List.drop_zero,List.take_length]
  match l,hb with
  | [],_=>rfl
  | [x],_=>rfl
  | x :: y :: r,hb=>simp only [List.length_cons] at hb;omega
 ·refine ap.loopS ah (σ:=Nat) [0,1,5] (fun k=>[.own .order 1 0 l.length none,kg,i64 k]) (fun _=>[(1,.row .order l)]) (fun k=>1 ≤ k ∧ k ≤ l.length ∧ ∀ j,0 < j → j < k → ej (elt .order l j) (elt .order l (j - 1)) = false) (fun k=>l.length - k) 1 ⟨by omega,by omega,fun j h1 h2=>by omega⟩ ?_ ?_
  ·exact fD0
  ·rintro k ⟨hk1,hk2,hall⟩
   have hnone:=F2 hall hk2
   by_cases hlt : k < l.length
   ·have hk' : ((k : Int) - 1).toNat = k - 1:=by omega
    have hS:=zQ (elt .order l ((k : Int).toNat + 0)) (elt .order l (((k : Int) - 1).toNat + 0))
    rw [show elt .order l ((k : Int).toNat + 0) = elt .order l k from rfl] at hS
    have hS2 : ej (elt .order l k) (elt .order l (((k : Int) - 1).toNat + 0)) = ej (elt .order l k) (elt .order l (k - 1)):=by rw [hk'];rfl
    rw [hS2] at hS
    have hcn:=qh (l:=l) (j:=k) (by omega) hlt (ar .order l k hlt) (ar .order l (k - 1) (by omega))
    cases hd : ej (elt .order l k) (elt .order l (k - 1)) with
    | false =>
     rw [hd] at hS
     conv=>whnf
     repeat' (first|exact trivial|((first|(refine ⟨fun hb=>?_,fun hb=>?_⟩<;>(try simp only [nrm] at hb)<;>try exact kZ hb)|refine kV ?_)<;>(conv=>whnf))|refine kY ?_ ?_)
     refine .to (k + 1) ⟨by omega,by omega,fun j h1 h2=>?_⟩ (by omega) ?_
     ·by_cases e : j = k
      ·subst e;exact hd
      ·exact hall j h1 (by omega)
     ·exact fD0
    | true =>
     rw [hd] at hS
     rw [hd,if_pos rfl,List.append_nil,hnone] at hcn
     conv=>whnf
     repeat' (first|exact trivial|((first|(refine ⟨fun hb=>?_,fun hb=>?_⟩<;>(try simp only [nrm] at hb)<;>try exact kZ hb)|refine kV ?_)<;>(conv=>whnf))|refine kY ?_ ?_)
     refine ap.loopE ah (σ:=Nat × List ay) [0,1,5,6,7] (fun (j,mid)=>[.own .order 1 0 l.length none,kg,i64 (dR (l.take (k + j))).length,.own .order 1 k (l.length - k) none,i64 j])
      (fun (j,mid)=>[(1,.row .order (dR (l.take (k + j)) ++ (mid ++ l.drop (k + j - 1))))])
      (fun (j,mid)=>1 ≤ j ∧ k + j ≤ l.length ∧ (dR (l.take (k + j))).length + mid.length + 1 = k + j) (fun (j,mid)=>l.length - j) (1,[]) ⟨by omega,by omega,by rw [hcn,List.length_take];simp;omega⟩ ?_ ?_
     ·conv=>whnf
      repeat' (first|exact trivial|((first|(refine ⟨fun hb=>?_,fun hb=>?_⟩<;>(try simp only [nrm] at hb)<;>try exact kZ hb)|refine kV ?_)<;>(conv=>whnf))|refine kY ?_ ?_)
      ·show [AV.own .order 1 0 l.length none,kg,i64 k,AV.own .order 1 k ((l.length : Int) - k).toNat none,i64 1] = [AV.own .order 1 0 l.length none,kg,i64 (dR (l.take (k + 1))).length,AV.own .order 1 k (l.length - k) none,i64 (1 : Nat)]
       rw [hcn,List.length_take,Nat.min_eq_left hk2,show ((l.length : Int) - k).toNat = l.length - k by omega];rfl
      ·show [(1,Blk.row .order l)] = [(1,Blk.row .order (dR (l.take (k + 1)) ++ ([] ++ l.drop (k + 1 - 1))))]
       rw [hcn,Nat.add_sub_cancel,List.nil_append,List.take_append_drop]
     ·rintro ⟨j,mid⟩ ⟨h1,h2,h3⟩
      dsimp only
      by_cases hlj : k + j < l.length
      ·have hKn : dR (l.take (k + (j + 1))) = _:=qh (l:=l) (j:=k + j) (by omega) hlj (ar .order l (k + j) hlj) (ar .order l (k + j - 1) (by omega))
       generalize dR (l.take (k + j)) = K at *
       have hdr : l.drop (k + j - 1) = elt .order l (k + j - 1) :: l.drop (k + j):=by
        rw [aY (t:=.order) (i:=k + j - 1) (by omega),show k + j - 1 + 1 = k + j by omega]
       have hRl : (K ++ (mid ++ l.drop (k + j - 1))).length = l.length:=by simp;omega
       have hRe : elt .order (K ++ (mid ++ l.drop (k + j - 1))) ((j : Int).toNat + k) = elt .order l (k + j):=by
        unfold elt
        rw [← List.append_assoc,List.getElem?_append_right (by simp;omega),List.length_append,List.getElem?_drop,show k + j - 1 + ((j : Int).toNat + k - (K.length + mid.length)) = k + j by omega]
       have hRp : elt .order (K ++ (mid ++ l.drop (k + j - 1))) (((j : Int) - 1).toNat + k) = elt .order l (k + j - 1):=by
        unfold elt
        rw [← List.append_assoc,List.getElem?_append_right (by simp;omega),List.length_append,List.getElem?_drop,show k + j - 1 + (((j : Int) - 1).toNat + k - (K.length + mid.length)) = k + j - 1 by omega]
       have hmid : mid ++ l.drop (k + j - 1) = (mid ++ [elt .order l (k + j - 1)]) ++ l.drop (k + j):=by rw [hdr];simp
       generalize hR : K ++ (mid ++ l.drop (k + j - 1)) = R at *
       have hS:=zQ (elt .order R ((j : Int).toNat + k)) (elt .order R (((j : Int) - 1).toNat + k))
       have hS2 : ej (elt .order R ((j : Int).toNat + k)) (elt .order R (((j : Int) - 1).toNat + k)) = ej (elt .order l (k + j)) (elt .order l (k + j - 1)):=by rw [hRe,hRp]
       rw [hS2] at hS
       cases hd2 : ej (elt .order l (k + j)) (elt .order l (k + j - 1)) with
       | true =>
        rw [hd2] at hS
        rw [hd2,if_pos rfl,List.append_nil] at hKn
        conv=>whnf
        repeat' (first|exact trivial|((first|(refine ⟨fun hb=>?_,fun hb=>?_⟩<;>(try simp only [nrm] at hb)<;>try exact kZ hb)|refine kV ?_)<;>(conv=>whnf))|refine kY ?_ ?_)
        ·refine .to (j + 1,mid ++ [elt .order l (k + j - 1)]) ⟨by dsimp only;omega,by dsimp only;omega,by dsimp only;rw [hKn];simp;omega⟩ (by dsimp only;omega) ?_
         conv=>whnf
         repeat' (first|exact trivial|((first|(refine ⟨fun hb=>?_,fun hb=>?_⟩<;>(try simp only [nrm] at hb)<;>try exact kZ hb)|refine kV ?_)<;>(conv=>whnf))|refine kY ?_ ?_)
         ·show [AV.own .order 1 0 l.length none,kg,i64 K.length,AV.own .order 1 k (l.length - k) none,i64 ((j : Int) + 1)] = [AV.own .order 1 0 l.length none,kg,i64 (dR (l.take (k + (j + 1)))).length,AV.own .order 1 k (l.length - k) none,i64 ((j + 1 : Nat) : Int)]
          rw [hKn];rfl
         ·show [(1,Blk.row .order R)] = [(1,Blk.row .order (dR (l.take (k + (j + 1))) ++ ((mid ++ [elt .order l (k + j - 1)]) ++ l.drop (k + j))))]
          rw [hKn,← hR,hmid]
       | false =>
        rw [hd2] at hS
        rw [hd2,if_neg (by simp)] at hKn
        have hset : R.set K.length (elt .order R ((j : Int).toNat + k)) = (K ++ [elt .order l (k + j)]) ++ ((mid ++ [elt .order l (k + j - 1)]).tail ++ l.drop (k + j)):=by
         rw [hRe,← hR,hmid,List.set_append_right _ _ (Nat.le_refl _),Nat.sub_self]
         cases mid with
         | nil=>simp
         | cons m mid=>simp
        conv=>whnf
        repeat' (first|exact trivial|((first|(refine ⟨fun hb=>?_,fun hb=>?_⟩<;>(try simp only [nrm] at hb)<;>try exact kZ hb)|refine kV ?_)<;>(conv=>whnf))|refine kY ?_ ?_)
        ·refine .to (j + 1,(mid ++ [elt .order l (k + j - 1)]).tail) ⟨by dsimp only;omega,by dsimp only;omega,by dsimp only;rw [hKn];simp;omega⟩ (by dsimp only;omega) ?_
         conv=>whnf
         repeat' (first|exact trivial|((first|(refine ⟨fun hb=>?_,fun hb=>?_⟩<;>(try simp only [nrm] at hb)<;>try exact kZ hb)|refine kV ?_)<;>(conv=>whnf))|refine kY ?_ ?_)
         ·show [AV.own .order 1 0 l.length none,kg,i64 ((K.length : Int) + 1),AV.own .order 1 k (l.length - k) none,i64 ((j : Int) + 1)] = [AV.own .order 1 0 l.length none,kg,i64 (dR (l.take (k + (j + 1)))).length,AV.own .order 1 k (l.length - k) none,i64 ((j + 1 : Nat) : Int)]
          rw [hKn,List.length_append];rfl
         ·show [(1,Blk.row .order (R.set K.length (elt .order R ((j : Int).toNat + k))))] = [(1,Blk.row .order (dR (l.take (k + (j + 1))) ++ ((mid ++ [elt .order l (k + j - 1)]).tail ++ l.drop (k + j))))]
          rw [hKn,hset]
      ·have hje : k + j = l.length:=by omega
       have hcl:=Ch l
       conv=>whnf
       repeat' (first|exact trivial|((first|(refine ⟨fun hb=>?_,fun hb=>?_⟩<;>(try simp only [nrm] at hb)<;>try exact kZ hb)|refine kV ?_)<;>(conv=>whnf))|refine kY ?_ ?_)
       all_goals (rw [hje,List.take_length] at *)
       all_goals (simp only [Int.toNat_natCast,Int.sub_zero,Int.toNat_zero,Nat.zero_add,Nat.add_zero,List.drop_zero])
       ·exact j9 _ _ _ (by simp)
       ·rw [mR _ _ _ (by simp)];exact List.take_left' rfl
   ·obtain rfl : k = l.length:=by omega
    rw [List.take_length] at hnone
    conv=>whnf
    repeat' (first|exact trivial|((first|(refine ⟨fun hb=>?_,fun hb=>?_⟩<;>(try simp only [nrm] at hb)<;>try exact kZ hb)|refine kV ?_)<;>(conv=>whnf))|refine kY ?_ ?_)
    all_goals first|rfl|(rw [hnone];exact List.take_length)|trace_state
open Go Go.RowKit Go.Shelf Eng
def F3 : Go.Shelf.Ren:=⟨fun|6=>102|15=>180|14=>179|28=>237|29=>238|20=>229|21=>230|22=>231|23=>232|24=>233|25=>234|26=>235|27=>236|46=>267|47=>268|48=>269|49=>270|50=>271|57=>282|n=>n,fun|22=>79|24=>90|25=>143|3=>3|39=>222|0=>0|53=>259|55=>22|4=>4|46=>253|45=>252|50=>111|5=>5|9=>9|66=>279|70=>283|76=>294|77=>72|n=>n,fun|n=>n⟩
theorem Ls : Go.Proofs.SlLaysF0.n6 Tryz.prog F3:={
 mixed:=by kernel_rfl
 f6:=⟨Tryz.f102.name,by decide,Tryz.func102.trans (congrArg some (by kernel_rfl))⟩
 f14:=⟨Tryz.f179.name,by decide,Tryz.func179.trans (congrArg some (by kernel_rfl))⟩
 f15:=Tryz.func180.trans (congrArg some (by kernel_rfl))
 f20:=⟨Tryz.f229.name,by decide,Tryz.func229.trans (congrArg some (by kernel_rfl))⟩
 f21:=⟨Tryz.f230.name,by decide,Tryz.func230.trans (congrArg some (by kernel_rfl))⟩
 f22:=⟨Tryz.f231.name,by decide,Tryz.func231.trans (congrArg some (by kernel_rfl))⟩
 f23:=⟨Tryz.f232.name,by decide,Tryz.func232.trans (congrArg some (by kernel_rfl))⟩
 f24:=⟨Tryz.f233.name,by decide,Tryz.func233.trans (congrArg some (by kernel_rfl))⟩
 f25:=⟨Tryz.f234.name,by decide,Tryz.func234.trans (congrArg some (by kernel_rfl))⟩
 f26:=⟨Tryz.f235.name,by decide,Tryz.func235.trans (congrArg some (by kernel_rfl))⟩
 f27:=⟨Tryz.f236.name,by decide,Tryz.func236.trans (congrArg some (by kernel_rfl))⟩
 f28:=Tryz.func237.trans (congrArg some (by kernel_rfl))
 f29:=Tryz.func238.trans (congrArg some (by kernel_rfl))
 f46:=⟨Tryz.f267.name,by decide,Tryz.func267.trans (congrArg some (by kernel_rfl))⟩
 f47:=Tryz.func268.trans (congrArg some (by kernel_rfl))
 f48:=Tryz.func269.trans (congrArg some (by kernel_rfl))
 f49:=⟨Tryz.f270.name,by decide,Tryz.func270.trans (congrArg some (by kernel_rfl))⟩
 f50:=⟨Tryz.f271.name,by decide,Tryz.func271.trans (congrArg some (by kernel_rfl))⟩
 f57:=⟨Tryz.f282.name,by decide,Tryz.func282.trans (congrArg some (by kernel_rfl))⟩
 t0:=Tryz.underlying0
 a0:=Tryz.isAgg0
 z0:=Tryz.sizeOf0
 v0:=Tryz.zeroValue0
 t3:=Tryz.underlying3
 a3:=Tryz.isAgg3
 z3:=Tryz.sizeOf3
 v3:=Tryz.zeroValue3
 t4:=Tryz.underlying4
 a4:=Tryz.isAgg4
 z4:=Tryz.sizeOf4
 v4:=Tryz.zeroValue4
 t5:=Tryz.underlying5
 a5:=Tryz.isAgg5
 z5:=Tryz.sizeOf5
 v5:=Tryz.zeroValue5
 t9:=Tryz.underlying9
 a9:=Tryz.isAgg9
 z9:=Tryz.sizeOf9
 v9:=Tryz.zeroValue9
 t22:=Tryz.underlying79
 a22:=Tryz.isAgg79
 z22:=Tryz.sizeOf79
 v22:=Tryz.zeroValue79
 t25:=Tryz.underlying143
 a25:=Tryz.isAgg143
 z25:=Tryz.sizeOf143
 v25:=Tryz.zeroValue143
 t39:=Tryz.underlying222
 a39:=Tryz.isAgg222
 z39:=Tryz.sizeOf222
 v39:=Tryz.zeroValue222
 t45:=Tryz.underlying252
 a45:=Tryz.isAgg252
 z45:=Tryz.sizeOf252
 v45:=Tryz.zeroValue252
 t46:=Tryz.underlying253
 a46:=Tryz.isAgg253
 z46:=Tryz.sizeOf253
 v46:=Tryz.zeroValue253
 t50:=Tryz.underlying111
 a50:=Tryz.isAgg111
 z50:=Tryz.sizeOf111
 v50:=Tryz.zeroValue111
 t53:=Tryz.underlying259
 a53:=Tryz.isAgg259
 z53:=Tryz.sizeOf259
 v53:=Tryz.zeroValue259
 t55:=Tryz.underlying22
 a55:=Tryz.isAgg22
 z55:=Tryz.sizeOf22
 v55:=Tryz.zeroValue22
 t66:=Tryz.underlying279
 a66:=Tryz.isAgg279
 z66:=Tryz.sizeOf279
 v66:=Tryz.zeroValue279
 t70:=Tryz.underlying283
 a70:=Tryz.isAgg283
 z70:=Tryz.sizeOf283
 v70:=Tryz.zeroValue283
 t76:=Tryz.underlying294
 a76:=Tryz.isAgg294
 z76:=Tryz.sizeOf294
 v76:=Tryz.zeroValue294
 t77:=Tryz.underlying72
 a77:=Tryz.isAgg72
 z77:=Tryz.sizeOf72
 v77:=Tryz.zeroValue72 }
theorem Cg (l : List (El .order)) (hl : l.length ≤ 4000000000000) (c : Option Nat) : Ev1 Tryz.prog 102 [.own .order 1 0 l.length c,.lit (.func (.func 103) #[] #[])] [(1,.row .order l)] und [(1,.row .order (jv l))]:=
 zN Ls Tryz.isAgg90 Tryz.sizeOf90 (fun args w=>ah.call 103 rfl args w) (cf:=HZ) DP wK DM l (by omega) c
open Go Go.RowKit Eng
theorem qe (l : List (El .order)) (hl : l.length * 56 ≤ 140737488355328) : Ev1 Tryz.prog 101 [.vec .order l] [] (.own .order 390001 0 l.length none) [(390001,.row .order l)]:=by
 refine eF Tryz.func101 7 ?_
 conv=>whnf
 repeat' (first|exact trivial|((first|(refine ⟨fun hb=>?_,fun hb=>?_⟩<;>(try simp only [nrm] at hb)<;>try exact kZ hb)|refine kV ?_)<;>(conv=>whnf))|refine kY ?_ ?_)
 all_goals simp_all
theorem wI (l : List (El .order)) (n : Nat) (hn : n = l.length) (hl : l.length ≤ 4000000000000) : Ev1 Tryz.prog 107 [.own .order 1 0 n none,kg] [(1,.row .order l)] (.vec .order (dR l)) []:=by
 subst hn;exact DN l hl
theorem uk (l : List (El .order)) (hl : l.length ≤ 2000000000000) : Api Tryz.prog 48 [.vec .order l] (.vec .order (b7 l)):=by
 have hn:=qi l
 refine aF Tryz.func48 8 ?_
 conv=>whnf
 repeat' (first|exact trivial|((first|refine kL ?_|(refine ⟨fun hb=>?_,fun hb=>?_⟩<;>(try simp only [nrm] at hb)<;>try exact kZ hb)|(refine isE 101 ?_;refine kE (qe l (by omega)) [(390001,150001)] rfl ?_)|(refine isD 101 ?_;refine kF (qe l (by omega)) [(390001,150001)] rfl ?_)|refine kE (Cg l (by omega) none) [(1,150001)] rfl ?_|refine kF (Cg l (by omega) none) [(1,150001)] rfl ?_|(refine isE 107 ?_;refine kE (wI (jv l) l.length hn.symm (by omega)) [(1,150001)] rfl ?_)|(refine isD 107 ?_;refine kF (wI (jv l) l.length hn.symm (by omega)) [(1,150001)] rfl ?_)|refine kV ?_)<;>(conv=>whnf))|refine kY ?_ ?_)
 all_goals first|rfl|exact List.take_length|trace_state
theorem JB (w : Wld) (hw : OkW w) : Api Tryz.prog 100 [az w] (az w):=by
 have hs:=iM w hw
 refine aF Tryz.func100 9 ?_
 exact fD0
abbrev OkO (o : ay) : Prop:=o.player ≤ 9223372036854775807 ∧ 0 ≤ o.cmd.dol ∧ o.cmd.dol ≤ 255
abbrev xn : List AV:=[i64 0,.lit (.int .u64 0),i64 0,.lit (.slice none 0 0),.lit (.slice none 0 0)]
theorem HW {w : Wld} (hR : RW w) (S : List (El .order)) (hS : ∀ o ∈ S,OkO o) : ∃ (W : Nat → Wld) (Rp : Nat → List (El .reply)),W 0 = w ∧ Rp 0 = [] ∧ W S.length = (bw w S).1 ∧ Rp S.length = (bw w S).2 ∧ (∀ k,k ≤ S.length → (Rp k).length = k) ∧
  (∀ k,k < S.length → ∃ e : Int,Api Tryz.prog 30 [az (W k),i64 (elt .order S k).player,co (elt .order S k).cmd] (.tup [az (W (k + 1)),i64 e]) ∧ Rp (k + 1) = Rp k ++ [(⟨(elt .order S k).player,(elt .order S k).seq,e⟩ : nX)]):=by
 refine ⟨fun k=>(bw w (S.take k)).1,fun k=>(bw w (S.take k)).2,rfl,rfl,by dsimp only;rw [List.take_length],by dsimp only;rw [List.take_length],fun k hk=>by rw [vn,List.length_take];omega,fun k hk=>?_⟩
 have hR2:=mv (l:=S.take k) hR
 have ho:=hS _ (ao (t:=.order) hk)
 have hap:=ga (bw w (S.take k)).1 (elt .order S k).player (elt .order S k).cmd (bZ hR2) ho.1 ho.2
 have e:=kP w (ar .order S k hk)
 refine ⟨(fP (bw w (S.take k)).1 (elt .order S k)).2,?_,?_⟩
 ·dsimp only
  rw [e];exact hap
 ·dsimp only
  rw [e]
theorem HX (w : Wld) (l : List (El .order)) (hw : OkW w) (hl : l.length ≤ 2000000000000) (hO : ∀ o ∈ l,OkO o) : Api Tryz.prog 44 [az w,.vec .order l] (.tup [az (ci w l).1,.vec .reply (ci w l).2.1,i64 (ci w l).2.2]):=by
 have hrt:=dA w hw
 have how:=JB w hw
 have hso:=uk l hl
 by_cases h1 : 1099511627776 ≤ w.tick
 ·have hf : ci w l = (w,[],113):=by unfold ci;rw [if_pos (.inl h1)]
  rw [hf]
  dsimp only
  refine aF Tryz.func44 62 ?_
  exact fD0
 ·cases hR : aO w with
  | false =>
   have hf : ci w l = (w,[],113):=by unfold ci;rw [if_pos (.inr hR)]
   rw [hf]
   rw [hR] at hrt
   dsimp only
   refine aF Tryz.func44 62 ?_
   exact fD0
  | true =>
   rw [hR] at hrt
   by_cases h2 : 200 < l.length
   ·have hf : ci w l = (w,[],3):=by unfold ci;rw [if_neg (by rw [hR];simp;omega),if_pos h2]
    rw [hf]
    dsimp only
    refine aF Tryz.func44 62 ?_
    exact fD0
   ·have hRW:=aK.1 hR
    have hf:=qk hRW (by omega) (l:=l) (by omega)
    have hsz:=hRW.size
    rw [hf]
    dsimp only
    have hSl:=lC l
    have hSO : ∀ o ∈ b7 l,OkO o:=fun o ho=>hO o (lB ho)
    have htk:=s_ (l:=b7 l) hRW
    have hRE:=mv (l:=b7 l) hRW
    generalize b7 l = S at *
    obtain ⟨W,Rp,w0,r0,wE,rE,hlen,hst⟩:=HW hRW S hSO
    rw [← wE] at htk hRE
    rw [← wE,← rE]
    clear hf wE rE hSO
    have hz : S.length ≤ 200:=by omega
    refine aF Tryz.func44 62 ?_
    conv=>whnf
    repeat' (first|exact trivial|((first|(refine ⟨fun hb=>?_,fun hb=>?_⟩<;>(try simp only [nrm] at hb)<;>try exact kZ hb)|refine kV ?_)<;>(conv=>whnf))|refine kY ?_ ?_)
    refine ap.loopS ah (σ:=Nat) [2,4,7,32,33,34] (fun k=>[.ptr 4 0,.ptr 8 0,.own .reply 113 0 k none,.vec .order S,i64 S.length,i64 k]) (fun k=>[(4,.box (bA (W k))),(8,.box xn),(113,.row .reply (Rp k))]) (fun k=>k ≤ S.length) (fun k=>S.length - k) 0 (by omega) ?_ ?_
    ·conv=>whnf
     repeat' (first|exact trivial|((first|(refine ⟨fun hb=>?_,fun hb=>?_⟩<;>(try simp only [nrm] at hb)<;>try exact kZ hb)|refine kV ?_)<;>(conv=>whnf))|refine kY ?_ ?_)
     all_goals first|rfl|omega|exact r0|rw [w0]|trace_state
    ·intro k hk
     have hln:=hlen k hk
     by_cases hlt : k < S.length
     ·obtain ⟨e,ha,hr⟩:=hst k hlt
      have hln2:=hlen (k + 1) (by omega)
      conv=>whnf
      repeat' (first|exact trivial|((first|(refine ⟨fun hb=>?_,fun hb=>?_⟩<;>(try simp only [nrm] at hb)<;>try exact kZ hb)|refine kV ?_)<;>(conv=>whnf))|refine kY ?_ ?_)
      refine .to (k + 1) (by omega) (by omega) ?_
      conv=>whnf
      repeat' (first|exact trivial|((first|(refine ⟨fun hb=>?_,fun hb=>?_⟩<;>(try simp only [nrm] at hb)<;>try exact kZ hb)|refine kV ?_)<;>(conv=>whnf))|refine kY ?_ ?_)
      all_goals first|rfl|omega|(rw [hr,List.take_of_length_le (l:=Rp k) (by omega)];exact List.take_of_length_le (by simp;omega))|trace_state
     ·obtain rfl : k = S.length:=by omega
      conv=>whnf
      repeat' (first|exact trivial|((first|(refine ⟨fun hb=>?_,fun hb=>?_⟩<;>(try simp only [nrm] at hb)<;>try exact kZ hb)|refine kV ?_)<;>(conv=>whnf))|refine kY ?_ ?_)
      all_goals first|rfl|omega|exact congrArg (fun t : Int=>Value.int .i64 (t + 1)) htk|(rw [List.drop_zero];exact List.take_of_length_le (by omega))|trace_state
end Go.Proofs.YtkojlembanldcaaGreat
