/- tick.Sorted, tick.Fold; homesteadlaw17.awake. -/
import Derived.Test.YtkojlembanldcaaGreatGc
import Derived.Shelf.SlSortCmp.NoneTotal
import Derived.Test.YtkojlembanldcaaGreatRe
import Derived.Test.YtkojlembanldcaaGreatGh
import Derived.Shelf.SlLaysF0
import Derived.Test.YtkojlembanldcaaGreatGj
import Derived.Test.YtkojlembanldcaaGreatGk
set_option linter.unusedSimpArgs false
set_option linter.unusedVariables false
set_option maxRecDepth 100000
set_option maxHeartbeats 16000000
namespace Eng
open Go Go.RowKit Go.Shelf Go.Sort Go.Lib Go.Proofs
def encO (o : Order) : List Value:=[.int .i64 o.player,.int .i64 o.seq,.int .u8 o.cmd.dol,.int .i64 o.cmd.a,.int .i64 o.cmd.b,.int .i64 o.cmd.c,.int .i64 o.cmd.n]
instance : Inhabited Order:=⟨dflt .order⟩
def gAll (w : World) : G:={ ro:=fun b=>b < w.heap.size,no:=fun _=>False,al:=fun _=>False,be:=id,sz:=id }
theorem msimAll (w : World) : MSim w (gAll w) 0 (mget []):=
 ⟨fun k=>by simp [gAll,mget],fun k hk=>hk.elim,fun k hk=>hk.elim,fun k j hk=>hk.elim,fun k b hb=>by simp [mget] at hb,fun b hb=>hb,fun b hb=>hb.elim⟩
theorem grown_of_tr {w w' : World} {g : G} (hg : ∀ b,b < w.heap.size → g.ro b) (ht : Tr g w w') : ∃ q os',w' = grow (w.drewN q) os':=by
 refine ⟨w'.drawn - w.drawn,w'.heap.extract w.heap.size w'.heap.size,?_⟩
 obtain ⟨h1,h2,h3,⟨h4,h5⟩,h6,_⟩:=ht
 have hh : w'.heap = w.heap ++ w'.heap.extract w.heap.size w'.heap.size:=by
  apply Array.ext_getElem?
  intro i
  rw [Array.getElem?_append]
  split
  ·rename_i hi;exact h6 i (hg i hi)
  ·rename_i hi
   by_cases hlt : i < w'.heap.size
   ·rw [Array.getElem?_extract,if_pos (by omega)]
    congr 1;omega
   ·rw [Array.getElem?_eq_none (by omega),Array.getElem?_eq_none (by rw [Array.size_extract];omega)]
 have hd : w.drawn + (w'.drawn - w.drawn) = w'.drawn:=by omega
 obtain ⟨a1,a2,a3,a4,a5⟩:=w'
 obtain ⟨b1,b2,b3,b4,b5⟩:=w
 simp only [World.drewN,grow] at *
 subst h1 h2 h3
 rw [← hh,hd]
theorem repL_lits (w : World) (g : G) (lim : Nat) (vs : List Value) : Rep w g lim (.agg (vs.map .lit)) (.agg vs.toArray):=by
 refine .agg _ _ (by simp) fun i c x hc hx=>?_
 rw [List.getElem?_map] at hc
 rw [List.getElem?_toArray] at hx
 rw [hx] at hc
 cases hc
 exact .lit _
theorem cmpLays_of {P : Program} {fid : FuncId} {cf : Order → Order → Int} (h : ∀ x y : Order,Api P fid [.agg (cells .order x),.agg (cells .order y)] (i64 (cf x y))) (blk off size : Nat) (w : World) :
  CmpLays P fid #[] encO 7 cf blk off size w:=by
 intro m os dk _ x y
 generalize sortWorldK encO 7 w blk off m dk os = W
 rw [Array.append_empty]
 have r1:=repL_lits W (gAll W) 0 (encO x)
 have r2:=repL_lits W (gAll W) 0 (encO y)
 have hr : RepL W (gAll W) 0 [.agg (cells .order x),.agg (cells .order y)] #[.agg (encO x).toArray,.agg (encO y).toArray]:=by
  refine ⟨rfl,fun i c v hc hv=>?_⟩
  match i,hc,hv with
  | 0,hc,hv=>cases Option.some.inj hc;cases Option.some.inj hv;exact r1
  | 1,hc,hv=>cases Option.some.inj hc;cases Option.some.inj hv;exact r2
  | i + 2,hc,hv=>cases hc
 refine (h x y W (gAll W) _ (msimAll W) hr).mono ?_
 rintro e w' ⟨v,g',e1,e2,_,e4,_⟩
 refine ⟨?_,grown_of_tr (fun b hb=>hb) e4⟩
 rw [e1]
 have : v = .int .i64 (cf x y):=rep_lit e2
 rw [this]
theorem flat_encO (l : List Order) (j : Nat) (hj : j < l.length * 7) : ∃ e,l[j / 7]? = some e ∧ (flat .order l)[j]? = some (.lit (encO e)[j % 7]!):=by
 have h1 : j / 7 < l.length:=by omega
 refine ⟨l[j / 7],List.getElem?_eq_getElem h1,?_⟩
 have h2:=flat_get .order l (j / 7) l[j / 7] (List.getElem?_eq_getElem h1) (j % 7) (by show j % 7 < 7;omega)
 rw [show j / 7 * csz .order + j % 7 = j from by show j / 7 * 7 + j % 7 = j;omega] at h2
 rw [h2]
 have h3 : j % 7 < 7:=by omega
 generalize l[j / 7] = e
 generalize j % 7 = r at h3
 match r,h3 with
 | 0,_=>rfl
 | 1,_=>rfl
 | 2,_=>rfl
 | 3,_=>rfl
 | 4,_=>rfl
 | 5,_=>rfl
 | 6,_=>rfl
theorem flatK_get (l : List Order) (j : Nat) (hj : j < l.length * 7) (e : Order) (he : l[j / 7]? = some e) : (flatK encO 7 l.toArray)[j]! = (encO e)[j % 7]!:=by
 rw [get_flatK _ _ _ _ (by simpa using hj)]
 have h1 : (l.toArray)[j / 7]! = e:=by
  rw [getElem!_def]
  simp [he]
 rw [h1]
theorem sortFunc_ev1 {P : Program} {ρ : Ren} (Ly : SlLaysF0.n6 P ρ) (aE : ∀ w,(isAgg (ρ.t 24)).run P w = .ok true w) (zE : ∀ w,(Go.sizeOf (ρ.t 24)).run P w = .ok 7 w)
  {fid : FuncId} (eg : ∀ args w,(callFunc fid args).run P w = .ok (.enter fid args) w) {cf : Order → Order → Int} (hO : SWO (ltOf cf)) (hT : ∀ x y,(ltOf cf) x y = false → (ltOf cf) y x = false → x = y)
  (hc : ∀ x y : Order,Api P fid [.agg (cells .order x),.agg (cells .order y)] (i64 (cf x y))) (l : List Order) (hn : l.length < 4611686018427387904) (c : Option Nat) :
  Ev1 P (ρ.f 6) [.own .order 1 0 l.length c,.lit (.func (.func fid) #[] #[])] [(1,.row .order l)] und [(1,.row .order (l.mergeSort fun x y=>!(ltOf cf) y x))]:=by
 intro w g vs hm ha
 have hsz : vs.size = 2:=ha.1.symm
 obtain ⟨v1,v2,rfl⟩ : ∃ v1 v2,vs = #[v1,v2]:=⟨vs[0],vs[1],by apply Array.ext;exact hsz;intro i h1 h2;match i,h2 with|0,_=>rfl|1,_=>rfl⟩
 have r1:=ha.2 0 _ v1 rfl rfl
 have r2:=ha.2 1 _ v2 rfl rfl
 have hv2 : v2 = .func (.func fid) #[] #[]:=rep_lit r2
 subst hv2
 have hlen : (l.mergeSort fun x y=>!(ltOf cf) y x).length = l.length:=List.length_mergeSort _
 have none : l = [] → ∀ (p : Option Addr) (cap : Nat),v1 = .slice p 0 cap → Calls P (ρ.f 6) #[v1,.func (.func fid) #[] #[]] w fun e w'=>∃ x g',e = .returned x ∧ Rep w' g' L und x ∧ MSim w' g' L (mget [(1,.row .order (l.mergeSort fun x y=>!(ltOf cf) y x))]) ∧ Tr g w w' ∧ LeG L g g':=by
  intro hl p cap hv
  subst hl
  rw [hv]
  refine (AnyF.slices_SortFunc_none Ly p cap _ w).mono ?_
  rintro e w' ⟨rfl,rfl⟩
  refine ⟨_,g,rfl,.lit _,?_,Tr.refl g w',LeG.refl L g⟩
  rw [List.mergeSort_nil]
  exact hm
 generalize hlv : l.length = len at r1
 cases r1 with
 | ownE t k off c ad hk hcc=>exact none (List.eq_nil_of_length_eq_zero hlv) _ _ rfl
 | own t k off len b cap c hkl hcap hcc hal =>
  by_cases hl0 : len = 0
  ·refine none (List.eq_nil_of_length_eq_zero (by omega)) (some ⟨b,0 * csz .order,Option.none⟩) cap ?_
   rw [hl0]
  ·have hga : g.al 1:=(hm.al 1).2 rfl
   obtain ⟨hb,hfit⟩:=hal hga
   subst hb
   have hblk:=hm.blk 1 (.row .order l) rfl
   have hle:=hblk.le
   have hzp : 0 < g.sz 1:=by
    have : len * csz .order ≤ g.sz 1:=by rw [← hlv];exact hle
    have h7 : csz .order = 7:=rfl
    rw [h7] at this
    omega
   obtain ⟨c0,ty0,b1,b2,b3,b4⟩:=hblk.getRow hzp
   have hfl : (flat .order l).length = l.length * 7:=flat_length _ _
   have hcell : ∀ j,j < l.length * 7 → c0[j]? = some (flatK encO 7 l.toArray)[j]!:=fun j hj=>by
    obtain ⟨e,h1,h2⟩:=flat_encO l j hj
    have hlt : j < c0.size:=by omega
    have h3:=b4 j _ c0[j] h2 (Array.getElem?_eq_getElem hlt)
    rw [Array.getElem?_eq_getElem hlt,flatK_get l j hj e h1,rep_lit h3]
   have hH : HoldsK encO 7 w (g.be 1) 0 l.toArray:=by
    intro j hj
    have hj' : j < l.length * 7:=by simpa using hj
    rw [Nat.zero_add]
    refine ⟨?_,frozen_of_row w (g.be 1) j c0 ty0 b1⟩
    rw [cell_of_row w (g.be 1) j c0 ty0 (0,0) b1,hcell j hj']
    rfl
   have hin : g.be 1 < w.heap.size:=hblk.in hzp
   have hz0 : (0 : Nat) * csz .order = 0:=Nat.zero_mul _
   rw [hz0]
   have hcon:=AnyQ.slices_SortFunc_total Ly 7 aE zE encO (fun _=>rfl) (fun x v hv=>by simp [encO] at hv;rcases hv with rfl|rfl|rfl|rfl|rfl|rfl|rfl<;>rfl) cf hO fid #[] (g.be 1) 0 cap l.toArray w eg (cmpLays_of hc _ _ _ w) hH hin (by simpa using hn) hT
   rw [show l.toArray.size = len from by simpa using hlv] at hcon
   refine hcon.mono ?_
   rintro e w' ⟨rfl,n,os,rfl⟩
   rw [show l.toArray.toList = l from rfl]
   generalize (l.mergeSort fun x y=>!(ltOf cf) y x) = d' at hlen
   -- the world behind it
   have hother : ∀ k,k < w.heap.size → k ≠ g.be 1 → (sortWorldK encO 7 w (g.be 1) 0 n d'.toArray os).heap[k]? = w.heap[k]?:=fun k hk hne=>by
    unfold sortWorldK grow putRowK putRow mapBlock Sort.ahead
    simp only
    rw [Array.getElem?_append_left (by simpa using hk),Array.getElem?_modify,if_neg (fun e=>hne e.symm)]
   have hat : (sortWorldK encO 7 w (g.be 1) 0 n d'.toArray os).heap[g.be 1]? = some (.cells (putCells id 0 (flatK encO 7 d'.toArray) c0) ty0 (0,0)):=by
    unfold sortWorldK grow putRowK putRow mapBlock Sort.ahead
    simp only
    rw [Array.getElem?_append_left (by simpa using hin),Array.getElem?_modify,if_pos rfl,b1]
    rfl
   have hsize : w.heap.size ≤ (sortWorldK encO 7 w (g.be 1) 0 n d'.toArray os).heap.size:=by
    unfold sortWorldK grow putRowK putRow mapBlock Sort.ahead
    simp
   have hdr : (sortWorldK encO 7 w (g.be 1) 0 n d'.toArray os).drawn = w.drawn + n:=rfl
   have hos : (sortWorldK encO 7 w (g.be 1) 0 n d'.toArray os).os = w.os:=rfl
   have htp : (sortWorldK encO 7 w (g.be 1) 0 n d'.toArray os).tape = w.tape:=rfl
   have hou : (sortWorldK encO 7 w (g.be 1) 0 n d'.toArray os).output = w.output:=rfl
   generalize sortWorldK encO 7 w (g.be 1) 0 n d'.toArray os = W at *
   have hro : ∀ b,g.ro b → W.heap[b]? = w.heap[b]?:=fun b hr=>hother b (hm.rolt b hr) (fun e=>hm.nro 1 hga hzp (e ▸ hr))
   refine ⟨_,g,rfl,.lit _,?_,⟨hos,htp,hou,⟨hsize,by omega⟩,hro,fun b hb=>hother b (hm.nof b hb).1 (fun e=>(hm.nof b hb).2.2 1 hga hzp e.symm)⟩,LeG.refl L g⟩
   have hmem : mget [(1,Blk.row .order d')] = put (mget [(1,Blk.row .order l)]) 1 (some (.row .order d')):=by
    funext i
    simp only [put,mget]
    by_cases hi : 1 = i
    ·rw [if_pos hi,nbt.2 hi]
    ·rw [if_neg hi,nbf.2 hi]
   rw [hmem]
   refine hm.write hga hzp _ hsize (fun b hb hlt=>hother b hlt hb) ?_
   refine BlkRep.mkRow ⟨_,ty0,hat,by simp [putCells,b2],by rw [flat_length,hlen];rw [flat_length] at b3;exact b3,fun i a x hi hx=>?_⟩
   have hi7 : i < d'.length * 7:=by
    have:=(List.getElem?_eq_some_iff.1 hi).1
    rw [flat_length] at this;exact this
   obtain ⟨e,h1,h2⟩:=flat_encO d' i hi7
   rw [h2] at hi
   cases hi
   unfold putCells at hx
   rw [Array.getElem?_mapIdx] at hx
   have hic : i < c0.size:=by omega
   rw [Array.getElem?_eq_getElem hic,Option.map_some,if_pos ⟨Nat.zero_le _,by simpa using hi7⟩,Nat.sub_zero,id,flatK_get d' i hi7 e h1] at hx
   cases hx
   exact .lit _
open Go Go.RowKit
def atE (is : List Nat) (f : List AV) (m : Mem) (es : List AV) (m1 : Mem) : Prop:=getsK f is fun cs=>cs = es ∧ m = m1
theorem atE_ok {is : List Nat} {f f0 : List AV} {m : Mem} {es : List AV} {m1 : Mem} (h : atE is f m es m1) (hl : f.length = f0.length) {w : World} {g : G} {lim : Nat} {a : Act} (hs : Sim w g lim f (mget m) a) :
  Sim w g lim (sets (tops f0) is es) (mget m1) a:=by
 unfold atE at h
 rw [getsK_eq] at h
 obtain ⟨h1,rfl⟩:=h
 have h3 : RepL w g lim es (is.map fun i=>(a.tmps[i]?).getD undef).toArray:=by
  rw [← h1]
  refine ⟨by simp,fun k c x hc hx=>?_⟩
  simp only [List.getElem?_map,Option.map_eq_some_iff] at hc
  obtain ⟨i,hi,rfl⟩:=hc
  simp [hi] at hx
  subst hx
  have hll:=hs.fr.1
  by_cases hlt : i < a.tmps.size
  ·rw [Array.getElem?_eq_getElem hlt,List.getElem?_eq_getElem (by omega)]
   exact hs.fr.2 i _ _ (List.getElem?_eq_getElem (by omega)) (Array.getElem?_eq_getElem hlt)
  ·rw [Array.getElem?_eq_none (by omega),List.getElem?_eq_none (by omega)]
   exact .lit _
 exact ⟨RepL.sets is ⟨by rw [tops_length,← hl];exact hs.fr.1,fun i x c hc _=>by rw [tops_get hc];exact .top _⟩ h3 (fun k i hk hi=>by simp [hk,hi]),hs.df,hs.me⟩
theorem Runs.loopE {P : Program} {C : Cfg2} (hC : Cfg2Ok P C) {base : Nat} {c : Code} {Q : Post} {f : List AV} {m : Mem} {σ : Type} (is : List Nat) (S : σ → List AV) (M : σ → Mem) (inv : σ → Prop) (rank : σ → Nat) (s0 : σ)
  (hi : inv s0) (h0 : atE is f m (S s0) (M s0))
  (round : ∀ s,inv s → topsK f fun f0=>setsK f0 is (S s) fun f1=>ev P C base c (fun e f' m'=>match e with
   | .normal=>match sameL f' f0 with
    | true=>Next inv (fun s'=>rank s' < rank s) (fun s'=>atE is f' m' (S s') (M s'))
    | false=>False
   | e=>Q e f' m') f1 (M s)) : Runs P base (.loop c) Q f m:=by
 refine ⟨fun w g a hs=>?_⟩
 have hs0:=atE_ok (f0:=f) h0 rfl hs
 refine wp_loop_n (fun n a' w'=>∃ s g',inv s ∧ rank s = n ∧ Sim w' g' (base + L) (sets (tops f) is (S s)) (mget (M s)) a' ∧ Tr g w w' ∧ LeG base g g') (rank s0) ⟨s0,g,hi,rfl,hs0,Tr.refl g w,LeG.refl base g⟩ ?_
 intro n1 a1 w1 hh
 obtain ⟨s,g1,hI1,rfl,hs1,ht1,hl1⟩:=hh
 have hr:=round s hI1
 rw [topsK_eq,setsK_eq] at hr
 refine Code.wp_mono (fun e a2 w2 hh=>?_) ((ev_ok hC c hr).go w1 g1 a1 hs1)
 obtain ⟨ae,f2,m2,g2,rfl,hq,hs2,ht2,hl2⟩:=hh
 cases ae with
 | normal =>
  simp only at hq
  cases hsl : sameL f2 (tops f) with
  | false=>rw [hsl] at hq;exact hq.elim
  | true =>
   rw [hsl] at hq
   rcases hq with ⟨s',hi',hlt,hat⟩|hq
   case no=>exact hq.elim
   have hs3:=atE_ok (f0:=f) hat (by rw [sameL_ok hsl,tops_length]) hs2
   exact ⟨rank s',hlt,s',g2,hi',rfl,hs3,ht1.trans hl1 ht2,hl1.trans hl2⟩
 | exit i=>exact ⟨.exit i,f2,m2,g2,rfl,hq,hs2,ht1.trans hl1 ht2,hl1.trans hl2⟩
 | ret=>exact ⟨.ret,f2,m2,g2,rfl,hq,hs2,ht1.trans hl1 ht2,hl1.trans hl2⟩
end Eng
namespace Go.Proofs.YtkojlembanldcaaGreat
open Go Go.RowKit Eng
theorem nanD_api (n : Int) : Api Tryz.prog 182 [.lit (.int .u8 n)] .ff:=by
 refine aF Tryz.func182 5 ?_
 exact fD0
theorem cmpD_api (a b : Int) : Api Tryz.prog 106 [.lit (.int .u8 a),.lit (.int .u8 b)] (i64 (cmpI a b)):=by
 refine aF Tryz.func106 18 ?_
 conv=>whnf
 repeat' (first|exact trivial|((first|refine kL ?_|(refine ⟨fun hb=>?_,fun hb=>?_⟩<;>(try simp only [nrm] at hb)<;>try exact kZ hb)|(refine isE 182 ?_;refine kA (nanD_api _) ?_)|(refine isD 182 ?_;refine kD (nanD_api _) ?_)|refine kV ?_)<;>(conv=>whnf))|refine kY ?_ ?_)
 all_goals (refine congrArg (Value.int _) ?_;unfold cmpI;(repeat' split)<;>omega)
def orL : List Int → Int
 | []=>0
 | a :: r=>if a = 0 then orL r else a
theorem orL_ev (l : List (El .i64)) (hl : l.length ≤ 1000) : Ev1 Tryz.prog 104 [.own .i64 1 0 l.length (some l.length)] [(1,.row .i64 l)] (i64 (orL l)) [(1,.row .i64 l)]:=by
 refine eF Tryz.func104 17 ?_
 conv=>whnf
 refine Runs.loopS cfg_ok (σ:=Nat) [3,6,7,8] (fun k=>[i64 0,.own .i64 1 0 l.length none,i64 l.length,i64 k]) (fun _=>[(1,.row .i64 l)]) (fun k=>k ≤ l.length ∧ orL (l.drop k) = orL l) (fun k=>l.length - k) 0 ⟨by omega,rfl⟩ ?_ ?_
 ·exact fD0
 ·rintro k ⟨hk,he⟩
  by_cases hlt : k < l.length
  ·rw [drop_elt (t:=.i64) hlt] at he
   simp only [orL] at he
   conv=>whnf
   repeat' (first|exact trivial|((first|(refine ⟨fun hb=>?_,fun hb=>?_⟩<;>(try simp only [nrm] at hb)<;>try exact kZ hb)|refine kV ?_)<;>(conv=>whnf))|refine kY ?_ ?_)
   ·have hb' : ¬ elt .i64 l k = 0:=by simpa using hb
    rw [if_neg hb'] at he
    rw [← he];simp
   ·have hb' : elt .i64 l k = 0:=by simpa using hb
    rw [if_pos hb'] at he
    refine .to (k + 1) ⟨hlt,he⟩ (by omega) ?_
    exact fD0
  ·obtain rfl : k = l.length:=by omega
   rw [List.drop_length] at he
   conv=>whnf
   repeat' (first|exact trivial|((first|(refine ⟨fun hb=>?_,fun hb=>?_⟩<;>(try simp only [nrm] at hb)<;>try exact kZ hb)|refine kV ?_)<;>(conv=>whnf))|refine kY ?_ ?_)
   all_goals first|(rw [← he];rfl)|exact List.take_length|trace_state
theorem before_api (x y : Order) : Api Tryz.prog 103 [.agg (cells .order x),.agg (cells .order y)] (i64 (cmpO x y)):=by
 refine aF Tryz.func103 46 ?_
 conv=>whnf
 repeat' (first|exact trivial|((first|refine kL ?_|(refine ⟨fun hb=>?_,fun hb=>?_⟩<;>(try simp only [nrm] at hb)<;>try exact kZ hb)|(refine isE 104 ?_;refine kR (orL_ev [cmpI x.player y.player,cmpI x.seq y.seq,cmpI x.cmd.dol y.cmd.dol,cmpI x.cmd.a y.cmd.a,cmpI x.cmd.b y.cmd.b,cmpI x.cmd.c y.cmd.c,cmpI x.cmd.n y.cmd.n] (by simp)) [(1,93)] rfl ?_)|(refine isD 104 ?_;refine kS (orL_ev [cmpI x.player y.player,cmpI x.seq y.seq,cmpI x.cmd.dol y.cmd.dol,cmpI x.cmd.a y.cmd.a,cmpI x.cmd.b y.cmd.b,cmpI x.cmd.c y.cmd.c,cmpI x.cmd.n y.cmd.n] (by simp)) [(1,93)] rfl ?_)|(refine isE 105 ?_;refine kA (cmp_api _ _) ?_)|(refine isD 105 ?_;refine kD (cmp_api _ _) ?_)|(refine isE 106 ?_;refine kA (cmpD_api _ _) ?_)|(refine isD 106 ?_;refine kD (cmpD_api _ _) ?_)|refine kV ?_)<;>(conv=>whnf))|refine kY ?_ ?_)
 all_goals first|rfl|trace_state
theorem once_api (x y : Order) : Api Tryz.prog 108 [.agg (cells .order x),.agg (cells .order y)] (bol (sameK x y)):=by
 refine aF Tryz.func108 15 ?_
 conv=>whnf
 repeat' (first|exact trivial|((first|(refine ⟨fun hb=>?_,fun hb=>?_⟩<;>(try simp only [nrm] at hb)<;>try exact kZ hb)|refine kV ?_)<;>(conv=>whnf))|refine kY ?_ ?_)
 ·unfold sameK;rw [decide_eq_true hb,Bool.true_and];rfl
 ·unfold sameK;rw [decide_eq_false hb,Bool.false_and]
theorem comp_none {l : List Order} {s : Nat} (h : ∀ k,0 < k → k < s → sameK (elt .order l k) (elt .order l (k - 1)) = false) (hs : s ≤ l.length) : compO (l.take s) = l.take s:=by
 induction s with
 | zero=>rfl
 | succ s ih =>
  by_cases h0 : s = 0
  ·subst h0
   cases l with
   | nil=>rfl
   | cons x r=>rfl
  ·rw [comp_next (by omega) (by omega) (elt_get .order l s (by omega)) (elt_get .order l (s - 1) (by omega)),ih (fun k a b=>h k a (by omega)) (by omega),h s (by omega) (by omega),List.take_add_one,elt_get .order l s (by omega)]
   rfl
abbrev onceF : AV:=.lit (.func (.func 108) #[] #[])
theorem compact_ev (l : List (El .order)) (hl : l.length ≤ 4000000000000) : Ev1 Tryz.prog 107 [.own .order 1 0 l.length none,onceF] [(1,.row .order l)] (.vec .order (compO l)) []:=by
 refine eF Tryz.func107 64 ?_
 conv=>whnf
 repeat' (first|exact trivial|((first|(refine ⟨fun hb=>?_,fun hb=>?_⟩<;>(try simp only [nrm] at hb)<;>try exact kZ hb)|refine kV ?_)<;>(conv=>whnf))|refine kY ?_ ?_)
 ·rw [List.drop_zero,List.take_length]
  match l,hb with
  | [],_=>rfl
  | [x],_=>rfl
  | x :: y :: r,hb=>simp only [List.length_cons] at hb;omega
 ·refine Runs.loopS cfg_ok (σ:=Nat) [0,1,5] (fun k=>[.own .order 1 0 l.length none,onceF,i64 k]) (fun _=>[(1,.row .order l)]) (fun k=>1 ≤ k ∧ k ≤ l.length ∧ ∀ j,0 < j → j < k → sameK (elt .order l j) (elt .order l (j - 1)) = false) (fun k=>l.length - k) 1 ⟨by omega,by omega,fun j h1 h2=>by omega⟩ ?_ ?_
  ·exact fD0
  ·rintro k ⟨hk1,hk2,hall⟩
   have hnone:=comp_none hall hk2
   by_cases hlt : k < l.length
   ·have hk' : ((k : Int) - 1).toNat = k - 1:=by omega
    have hS:=once_api (elt .order l ((k : Int).toNat + 0)) (elt .order l (((k : Int) - 1).toNat + 0))
    rw [show elt .order l ((k : Int).toNat + 0) = elt .order l k from rfl] at hS
    have hS2 : sameK (elt .order l k) (elt .order l (((k : Int) - 1).toNat + 0)) = sameK (elt .order l k) (elt .order l (k - 1)):=by rw [hk'];rfl
    rw [hS2] at hS
    have hcn:=comp_next (l:=l) (j:=k) (by omega) hlt (elt_get .order l k hlt) (elt_get .order l (k - 1) (by omega))
    cases hd : sameK (elt .order l k) (elt .order l (k - 1)) with
    | false =>
     rw [hd] at hS
     conv=>whnf
     repeat' (first|exact trivial|((first|(refine ⟨fun hb=>?_,fun hb=>?_⟩<;>(try simp only [nrm] at hb)<;>try exact kZ hb)|refine kV ?_)<;>(conv=>whnf))|refine kY ?_ ?_)
     refine .to (k + 1) ⟨by omega,by omega,fun j h1 h2=>?_⟩ (by omega) ?_
     ·by_cases e : j = k
      ·subst e;exact hd
      ·exact hall j h1 (by omega)
     ·exact fD0
    | true =>
     rw [hd] at hS
     rw [hd,if_pos rfl,List.append_nil,hnone] at hcn
     conv=>whnf
     repeat' (first|exact trivial|((first|(refine ⟨fun hb=>?_,fun hb=>?_⟩<;>(try simp only [nrm] at hb)<;>try exact kZ hb)|refine kV ?_)<;>(conv=>whnf))|refine kY ?_ ?_)
     refine Runs.loopE cfg_ok (σ:=Nat × List Order) [0,1,5,6,7] (fun (j,mid)=>[.own .order 1 0 l.length none,onceF,i64 (compO (l.take (k + j))).length,.own .order 1 k (l.length - k) none,i64 j])
      (fun (j,mid)=>[(1,.row .order (compO (l.take (k + j)) ++ (mid ++ l.drop (k + j - 1))))])
      (fun (j,mid)=>1 ≤ j ∧ k + j ≤ l.length ∧ (compO (l.take (k + j))).length + mid.length + 1 = k + j) (fun (j,mid)=>l.length - j) (1,[]) ⟨by omega,by omega,by rw [hcn,List.length_take];simp;omega⟩ ?_ ?_
     ·conv=>whnf
      repeat' (first|exact trivial|((first|(refine ⟨fun hb=>?_,fun hb=>?_⟩<;>(try simp only [nrm] at hb)<;>try exact kZ hb)|refine kV ?_)<;>(conv=>whnf))|refine kY ?_ ?_)
      ·show [AV.own .order 1 0 l.length none,onceF,i64 k,AV.own .order 1 k ((l.length : Int) - k).toNat none,i64 1] = [AV.own .order 1 0 l.length none,onceF,i64 (compO (l.take (k + 1))).length,AV.own .order 1 k (l.length - k) none,i64 (1 : Nat)]
       rw [hcn,List.length_take,Nat.min_eq_left hk2,show ((l.length : Int) - k).toNat = l.length - k by omega];rfl
      ·show [(1,Blk.row .order l)] = [(1,Blk.row .order (compO (l.take (k + 1)) ++ ([] ++ l.drop (k + 1 - 1))))]
       rw [hcn,Nat.add_sub_cancel,List.nil_append,List.take_append_drop]
     ·rintro ⟨j,mid⟩ ⟨h1,h2,h3⟩
      dsimp only
      by_cases hlj : k + j < l.length
      ·have hKn : compO (l.take (k + (j + 1))) = _:=comp_next (l:=l) (j:=k + j) (by omega) hlj (elt_get .order l (k + j) hlj) (elt_get .order l (k + j - 1) (by omega))
       generalize compO (l.take (k + j)) = K at *
       have hdr : l.drop (k + j - 1) = elt .order l (k + j - 1) :: l.drop (k + j):=by
        rw [drop_elt (t:=.order) (i:=k + j - 1) (by omega),show k + j - 1 + 1 = k + j by omega]
       have hRl : (K ++ (mid ++ l.drop (k + j - 1))).length = l.length:=by simp;omega
       have hRe : elt .order (K ++ (mid ++ l.drop (k + j - 1))) ((j : Int).toNat + k) = elt .order l (k + j):=by
        unfold elt
        rw [← List.append_assoc,List.getElem?_append_right (by simp;omega),List.length_append,List.getElem?_drop,show k + j - 1 + ((j : Int).toNat + k - (K.length + mid.length)) = k + j by omega]
       have hRp : elt .order (K ++ (mid ++ l.drop (k + j - 1))) (((j : Int) - 1).toNat + k) = elt .order l (k + j - 1):=by
        unfold elt
        rw [← List.append_assoc,List.getElem?_append_right (by simp;omega),List.length_append,List.getElem?_drop,show k + j - 1 + (((j : Int) - 1).toNat + k - (K.length + mid.length)) = k + j - 1 by omega]
       have hmid : mid ++ l.drop (k + j - 1) = (mid ++ [elt .order l (k + j - 1)]) ++ l.drop (k + j):=by rw [hdr];simp
       generalize hR : K ++ (mid ++ l.drop (k + j - 1)) = R at *
       have hS:=once_api (elt .order R ((j : Int).toNat + k)) (elt .order R (((j : Int) - 1).toNat + k))
       have hS2 : sameK (elt .order R ((j : Int).toNat + k)) (elt .order R (((j : Int) - 1).toNat + k)) = sameK (elt .order l (k + j)) (elt .order l (k + j - 1)):=by rw [hRe,hRp]
       rw [hS2] at hS
       cases hd2 : sameK (elt .order l (k + j)) (elt .order l (k + j - 1)) with
       | true =>
        rw [hd2] at hS
        rw [hd2,if_pos rfl,List.append_nil] at hKn
        conv=>whnf
        repeat' (first|exact trivial|((first|(refine ⟨fun hb=>?_,fun hb=>?_⟩<;>(try simp only [nrm] at hb)<;>try exact kZ hb)|refine kV ?_)<;>(conv=>whnf))|refine kY ?_ ?_)
        ·refine .to (j + 1,mid ++ [elt .order l (k + j - 1)]) ⟨by dsimp only;omega,by dsimp only;omega,by dsimp only;rw [hKn];simp;omega⟩ (by dsimp only;omega) ?_
         conv=>whnf
         repeat' (first|exact trivial|((first|(refine ⟨fun hb=>?_,fun hb=>?_⟩<;>(try simp only [nrm] at hb)<;>try exact kZ hb)|refine kV ?_)<;>(conv=>whnf))|refine kY ?_ ?_)
         ·show [AV.own .order 1 0 l.length none,onceF,i64 K.length,AV.own .order 1 k (l.length - k) none,i64 ((j : Int) + 1)] = [AV.own .order 1 0 l.length none,onceF,i64 (compO (l.take (k + (j + 1)))).length,AV.own .order 1 k (l.length - k) none,i64 ((j + 1 : Nat) : Int)]
          rw [hKn];rfl
         ·show [(1,Blk.row .order R)] = [(1,Blk.row .order (compO (l.take (k + (j + 1))) ++ ((mid ++ [elt .order l (k + j - 1)]) ++ l.drop (k + j))))]
          rw [hKn,← hR,hmid]
       | false =>
        rw [hd2] at hS
        rw [hd2,if_neg (by simp)] at hKn
        have hset : R.set K.length (elt .order R ((j : Int).toNat + k)) = (K ++ [elt .order l (k + j)]) ++ ((mid ++ [elt .order l (k + j - 1)]).tail ++ l.drop (k + j)):=by
         rw [hRe,← hR,hmid,List.set_append_right _ _ (Nat.le_refl _),Nat.sub_self]
         cases mid with
         | nil=>simp
         | cons m mid=>simp
        conv=>whnf
        repeat' (first|exact trivial|((first|(refine ⟨fun hb=>?_,fun hb=>?_⟩<;>(try simp only [nrm] at hb)<;>try exact kZ hb)|refine kV ?_)<;>(conv=>whnf))|refine kY ?_ ?_)
        ·refine .to (j + 1,(mid ++ [elt .order l (k + j - 1)]).tail) ⟨by dsimp only;omega,by dsimp only;omega,by dsimp only;rw [hKn];simp;omega⟩ (by dsimp only;omega) ?_
         conv=>whnf
         repeat' (first|exact trivial|((first|(refine ⟨fun hb=>?_,fun hb=>?_⟩<;>(try simp only [nrm] at hb)<;>try exact kZ hb)|refine kV ?_)<;>(conv=>whnf))|refine kY ?_ ?_)
         ·show [AV.own .order 1 0 l.length none,onceF,i64 ((K.length : Int) + 1),AV.own .order 1 k (l.length - k) none,i64 ((j : Int) + 1)] = [AV.own .order 1 0 l.length none,onceF,i64 (compO (l.take (k + (j + 1)))).length,AV.own .order 1 k (l.length - k) none,i64 ((j + 1 : Nat) : Int)]
          rw [hKn,List.length_append];rfl
         ·show [(1,Blk.row .order (R.set K.length (elt .order R ((j : Int).toNat + k))))] = [(1,Blk.row .order (compO (l.take (k + (j + 1))) ++ ((mid ++ [elt .order l (k + j - 1)]).tail ++ l.drop (k + j))))]
          rw [hKn,hset]
      ·have hje : k + j = l.length:=by omega
       have hcl:=comp_le l
       conv=>whnf
       repeat' (first|exact trivial|((first|(refine ⟨fun hb=>?_,fun hb=>?_⟩<;>(try simp only [nrm] at hb)<;>try exact kZ hb)|refine kV ?_)<;>(conv=>whnf))|refine kY ?_ ?_)
       all_goals (rw [hje,List.take_length] at *)
       all_goals (simp only [Int.toNat_natCast,Int.sub_zero,Int.toNat_zero,Nat.zero_add,Nat.add_zero,List.drop_zero])
       ·exact upon_length _ _ _ (by simp)
       ·rw [take_upon _ _ _ (by simp)];exact List.take_left' rfl
   ·obtain rfl : k = l.length:=by omega
    rw [List.take_length] at hnone
    conv=>whnf
    repeat' (first|exact trivial|((first|(refine ⟨fun hb=>?_,fun hb=>?_⟩<;>(try simp only [nrm] at hb)<;>try exact kZ hb)|refine kV ?_)<;>(conv=>whnf))|refine kY ?_ ?_)
    all_goals first|rfl|(rw [hnone];exact List.take_length)|trace_state
open Go Go.RowKit Go.Shelf Eng
def sortL_ren : Go.Shelf.Ren:=⟨fun|6=>102|15=>180|14=>179|28=>237|29=>238|20=>229|21=>230|22=>231|23=>232|24=>233|25=>234|26=>235|27=>236|46=>267|47=>268|48=>269|49=>270|50=>271|57=>282|n=>n,fun|22=>79|24=>90|25=>143|3=>3|39=>222|0=>0|53=>259|55=>22|4=>4|46=>253|45=>252|50=>111|5=>5|9=>9|66=>279|70=>283|76=>294|77=>72|n=>n,fun|n=>n⟩
theorem sortL : Go.Proofs.SlLaysF0.n6 Tryz.prog sortL_ren:={
 mixed:=by kernel_rfl
 f6:=⟨Tryz.f102.name,by decide,Tryz.func102.trans (congrArg some (by kernel_rfl))⟩
 f14:=⟨Tryz.f179.name,by decide,Tryz.func179.trans (congrArg some (by kernel_rfl))⟩
 f15:=Tryz.func180.trans (congrArg some (by kernel_rfl))
 f20:=⟨Tryz.f229.name,by decide,Tryz.func229.trans (congrArg some (by kernel_rfl))⟩
 f21:=⟨Tryz.f230.name,by decide,Tryz.func230.trans (congrArg some (by kernel_rfl))⟩
 f22:=⟨Tryz.f231.name,by decide,Tryz.func231.trans (congrArg some (by kernel_rfl))⟩
 f23:=⟨Tryz.f232.name,by decide,Tryz.func232.trans (congrArg some (by kernel_rfl))⟩
 f24:=⟨Tryz.f233.name,by decide,Tryz.func233.trans (congrArg some (by kernel_rfl))⟩
 f25:=⟨Tryz.f234.name,by decide,Tryz.func234.trans (congrArg some (by kernel_rfl))⟩
 f26:=⟨Tryz.f235.name,by decide,Tryz.func235.trans (congrArg some (by kernel_rfl))⟩
 f27:=⟨Tryz.f236.name,by decide,Tryz.func236.trans (congrArg some (by kernel_rfl))⟩
 f28:=Tryz.func237.trans (congrArg some (by kernel_rfl))
 f29:=Tryz.func238.trans (congrArg some (by kernel_rfl))
 f46:=⟨Tryz.f267.name,by decide,Tryz.func267.trans (congrArg some (by kernel_rfl))⟩
 f47:=Tryz.func268.trans (congrArg some (by kernel_rfl))
 f48:=Tryz.func269.trans (congrArg some (by kernel_rfl))
 f49:=⟨Tryz.f270.name,by decide,Tryz.func270.trans (congrArg some (by kernel_rfl))⟩
 f50:=⟨Tryz.f271.name,by decide,Tryz.func271.trans (congrArg some (by kernel_rfl))⟩
 f57:=⟨Tryz.f282.name,by decide,Tryz.func282.trans (congrArg some (by kernel_rfl))⟩
 t0:=Tryz.underlying0
 a0:=Tryz.isAgg0
 z0:=Tryz.sizeOf0
 v0:=Tryz.zeroValue0
 t3:=Tryz.underlying3
 a3:=Tryz.isAgg3
 z3:=Tryz.sizeOf3
 v3:=Tryz.zeroValue3
 t4:=Tryz.underlying4
 a4:=Tryz.isAgg4
 z4:=Tryz.sizeOf4
 v4:=Tryz.zeroValue4
 t5:=Tryz.underlying5
 a5:=Tryz.isAgg5
 z5:=Tryz.sizeOf5
 v5:=Tryz.zeroValue5
 t9:=Tryz.underlying9
 a9:=Tryz.isAgg9
 z9:=Tryz.sizeOf9
 v9:=Tryz.zeroValue9
 t22:=Tryz.underlying79
 a22:=Tryz.isAgg79
 z22:=Tryz.sizeOf79
 v22:=Tryz.zeroValue79
 t25:=Tryz.underlying143
 a25:=Tryz.isAgg143
 z25:=Tryz.sizeOf143
 v25:=Tryz.zeroValue143
 t39:=Tryz.underlying222
 a39:=Tryz.isAgg222
 z39:=Tryz.sizeOf222
 v39:=Tryz.zeroValue222
 t45:=Tryz.underlying252
 a45:=Tryz.isAgg252
 z45:=Tryz.sizeOf252
 v45:=Tryz.zeroValue252
 t46:=Tryz.underlying253
 a46:=Tryz.isAgg253
 z46:=Tryz.sizeOf253
 v46:=Tryz.zeroValue253
 t50:=Tryz.underlying111
 a50:=Tryz.isAgg111
 z50:=Tryz.sizeOf111
 v50:=Tryz.zeroValue111
 t53:=Tryz.underlying259
 a53:=Tryz.isAgg259
 z53:=Tryz.sizeOf259
 v53:=Tryz.zeroValue259
 t55:=Tryz.underlying22
 a55:=Tryz.isAgg22
 z55:=Tryz.sizeOf22
 v55:=Tryz.zeroValue22
 t66:=Tryz.underlying279
 a66:=Tryz.isAgg279
 z66:=Tryz.sizeOf279
 v66:=Tryz.zeroValue279
 t70:=Tryz.underlying283
 a70:=Tryz.isAgg283
 z70:=Tryz.sizeOf283
 v70:=Tryz.zeroValue283
 t76:=Tryz.underlying294
 a76:=Tryz.isAgg294
 z76:=Tryz.sizeOf294
 v76:=Tryz.zeroValue294
 t77:=Tryz.underlying72
 a77:=Tryz.isAgg72
 z77:=Tryz.sizeOf72
 v77:=Tryz.zeroValue72 }
theorem sort_ev (l : List (El .order)) (hl : l.length ≤ 4000000000000) (c : Option Nat) : Ev1 Tryz.prog 102 [.own .order 1 0 l.length c,.lit (.func (.func 103) #[] #[])] [(1,.row .order l)] und [(1,.row .order (sortO l))]:=
 sortFunc_ev1 sortL Tryz.isAgg90 Tryz.sizeOf90 (fun args w=>cfg_ok.call 103 rfl args w) (cf:=cmpO) swoO ltO_total before_api l (by omega) c
open Go Go.RowKit Eng
theorem clone_orders (l : List (El .order)) (hl : l.length * 56 ≤ 140737488355328) : Ev1 Tryz.prog 101 [.vec .order l] [] (.own .order 390001 0 l.length none) [(390001,.row .order l)]:=by
 refine eF Tryz.func101 7 ?_
 conv=>whnf
 repeat' (first|exact trivial|((first|(refine ⟨fun hb=>?_,fun hb=>?_⟩<;>(try simp only [nrm] at hb)<;>try exact kZ hb)|refine kV ?_)<;>(conv=>whnf))|refine kY ?_ ?_)
 all_goals simp_all
theorem compact_n (l : List (El .order)) (n : Nat) (hn : n = l.length) (hl : l.length ≤ 4000000000000) : Ev1 Tryz.prog 107 [.own .order 1 0 n none,onceF] [(1,.row .order l)] (.vec .order (compO l)) []:=by
 subst hn;exact compact_ev l hl
theorem sorted_api (l : List (El .order)) (hl : l.length ≤ 2000000000000) : Api Tryz.prog 48 [.vec .order l] (.vec .order (sortedL l)):=by
 have hn:=sortO_length l
 refine aF Tryz.func48 8 ?_
 conv=>whnf
 repeat' (first|exact trivial|((first|refine kL ?_|(refine ⟨fun hb=>?_,fun hb=>?_⟩<;>(try simp only [nrm] at hb)<;>try exact kZ hb)|(refine isE 101 ?_;refine kE (clone_orders l (by omega)) [(390001,150001)] rfl ?_)|(refine isD 101 ?_;refine kF (clone_orders l (by omega)) [(390001,150001)] rfl ?_)|refine kE (sort_ev l (by omega) none) [(1,150001)] rfl ?_|refine kF (sort_ev l (by omega) none) [(1,150001)] rfl ?_|(refine isE 107 ?_;refine kE (compact_n (sortO l) l.length hn.symm (by omega)) [(1,150001)] rfl ?_)|(refine isD 107 ?_;refine kF (compact_n (sortO l) l.length hn.symm (by omega)) [(1,150001)] rfl ?_)|refine kV ?_)<;>(conv=>whnf))|refine kY ?_ ?_)
 all_goals first|rfl|exact List.take_length|trace_state
theorem own_api (w : Wld) (hw : OkW w) : Api Tryz.prog 100 [wldV w] (wldV w):=by
 have hs:=setN_api w hw
 refine aF Tryz.func100 9 ?_
 exact fD0
abbrev OkO (o : Order) : Prop:=o.player ≤ 9223372036854775807 ∧ 0 ≤ o.cmd.dol ∧ o.cmd.dol ≤ 255
abbrev zeroW : List AV:=[i64 0,.lit (.int .u64 0),i64 0,.lit (.slice none 0 0),.lit (.slice none 0 0)]
theorem run_walk {w : Wld} (hR : RW w) (S : List (El .order)) (hS : ∀ o ∈ S,OkO o) : ∃ (W : Nat → Wld) (Rp : Nat → List (El .reply)),W 0 = w ∧ Rp 0 = [] ∧ W S.length = (runW w S).1 ∧ Rp S.length = (runW w S).2 ∧ (∀ k,k ≤ S.length → (Rp k).length = k) ∧
  (∀ k,k < S.length → ∃ e : Int,Api Tryz.prog 30 [wldV (W k),i64 (elt .order S k).player,cmdV (elt .order S k).cmd] (.tup [wldV (W (k + 1)),i64 e]) ∧ Rp (k + 1) = Rp k ++ [(⟨(elt .order S k).player,(elt .order S k).seq,e⟩ : Reply)]):=by
 refine ⟨fun k=>(runW w (S.take k)).1,fun k=>(runW w (S.take k)).2,rfl,rfl,by dsimp only;rw [List.take_length],by dsimp only;rw [List.take_length],fun k hk=>by rw [run_len,List.length_take];omega,fun k hk=>?_⟩
 have hR2:=run_rw (l:=S.take k) hR
 have ho:=hS _ (elt_mem (t:=.order) hk)
 have hap:=apply_api (runW w (S.take k)).1 (elt .order S k).player (elt .order S k).cmd (okW_rw hR2) ho.1 ho.2
 have e:=run_take_succ w (elt_get .order S k hk)
 refine ⟨(stepW (runW w (S.take k)).1 (elt .order S k)).2,?_,?_⟩
 ·dsimp only
  rw [e];exact hap
 ·dsimp only
  rw [e]
theorem fold_api (w : Wld) (l : List (El .order)) (hw : OkW w) (hl : l.length ≤ 2000000000000) (hO : ∀ o ∈ l,OkO o) : Api Tryz.prog 44 [wldV w,.vec .order l] (.tup [wldV (foldW w l).1,.vec .reply (foldW w l).2.1,i64 (foldW w l).2.2]):=by
 have hrt:=rightW_api w hw
 have how:=own_api w hw
 have hso:=sorted_api l hl
 by_cases h1 : 1099511627776 ≤ w.tick
 ·have hf : foldW w l = (w,[],113):=by unfold foldW;rw [if_pos (.inl h1)]
  rw [hf]
  dsimp only
  refine aF Tryz.func44 62 ?_
  exact fD0
 ·cases hR : rightW w with
  | false =>
   have hf : foldW w l = (w,[],113):=by unfold foldW;rw [if_pos (.inr hR)]
   rw [hf]
   rw [hR] at hrt
   dsimp only
   refine aF Tryz.func44 62 ?_
   exact fD0
  | true =>
   rw [hR] at hrt
   by_cases h2 : 200 < l.length
   ·have hf : foldW w l = (w,[],3):=by unfold foldW;rw [if_neg (by rw [hR];simp;omega),if_pos h2]
    rw [hf]
    dsimp only
    refine aF Tryz.func44 62 ?_
    exact fD0
   ·have hRW:=rightW_iff.1 hR
    have hf:=fold_good hRW (by omega) (l:=l) (by omega)
    have hsz:=hRW.size
    rw [hf]
    dsimp only
    have hSl:=sortedL_le l
    have hSO : ∀ o ∈ sortedL l,OkO o:=fun o ho=>hO o (sorted_mem ho)
    have htk:=run_tick (l:=sortedL l) hRW
    have hRE:=run_rw (l:=sortedL l) hRW
    generalize sortedL l = S at *
    obtain ⟨W,Rp,w0,r0,wE,rE,hlen,hst⟩:=run_walk hRW S hSO
    rw [← wE] at htk hRE
    rw [← wE,← rE]
    clear hf wE rE hSO
    have hz : S.length ≤ 200:=by omega
    refine aF Tryz.func44 62 ?_
    conv=>whnf
    repeat' (first|exact trivial|((first|(refine ⟨fun hb=>?_,fun hb=>?_⟩<;>(try simp only [nrm] at hb)<;>try exact kZ hb)|refine kV ?_)<;>(conv=>whnf))|refine kY ?_ ?_)
    refine Runs.loopS cfg_ok (σ:=Nat) [2,4,7,32,33,34] (fun k=>[.ptr 4 0,.ptr 8 0,.own .reply 113 0 k none,.vec .order S,i64 S.length,i64 k]) (fun k=>[(4,.box (wldC (W k))),(8,.box zeroW),(113,.row .reply (Rp k))]) (fun k=>k ≤ S.length) (fun k=>S.length - k) 0 (by omega) ?_ ?_
    ·conv=>whnf
     repeat' (first|exact trivial|((first|(refine ⟨fun hb=>?_,fun hb=>?_⟩<;>(try simp only [nrm] at hb)<;>try exact kZ hb)|refine kV ?_)<;>(conv=>whnf))|refine kY ?_ ?_)
     all_goals first|rfl|omega|exact r0|rw [w0]|trace_state
    ·intro k hk
     have hln:=hlen k hk
     by_cases hlt : k < S.length
     ·obtain ⟨e,ha,hr⟩:=hst k hlt
      have hln2:=hlen (k + 1) (by omega)
      conv=>whnf
      repeat' (first|exact trivial|((first|(refine ⟨fun hb=>?_,fun hb=>?_⟩<;>(try simp only [nrm] at hb)<;>try exact kZ hb)|refine kV ?_)<;>(conv=>whnf))|refine kY ?_ ?_)
      refine .to (k + 1) (by omega) (by omega) ?_
      conv=>whnf
      repeat' (first|exact trivial|((first|(refine ⟨fun hb=>?_,fun hb=>?_⟩<;>(try simp only [nrm] at hb)<;>try exact kZ hb)|refine kV ?_)<;>(conv=>whnf))|refine kY ?_ ?_)
      all_goals first|rfl|omega|(rw [hr,List.take_of_length_le (l:=Rp k) (by omega)];exact List.take_of_length_le (by simp;omega))|trace_state
     ·obtain rfl : k = S.length:=by omega
      conv=>whnf
      repeat' (first|exact trivial|((first|(refine ⟨fun hb=>?_,fun hb=>?_⟩<;>(try simp only [nrm] at hb)<;>try exact kZ hb)|refine kV ?_)<;>(conv=>whnf))|refine kY ?_ ?_)
      all_goals first|rfl|omega|exact congrArg (fun t : Int=>Value.int .i64 (t + 1)) htk|(rw [List.drop_zero];exact List.take_of_length_le (by omega))|trace_state
open Go Go.RowKit Eng
theorem sameO_self (l : List (El .order)) (hl : l.length ≤ 4000000000000) : Api Tryz.prog 47 [.vec .order l,.vec .order l] (bol true):=by
 refine aF Tryz.func47 24 ?_
 conv=>whnf
 repeat' (first|exact trivial|((first|(refine ⟨fun hb=>?_,fun hb=>?_⟩<;>(try simp only [nrm] at hb)<;>try exact kZ hb)|refine kV ?_)<;>(conv=>whnf))|refine kY ?_ ?_)
 refine Runs.loopS cfg_ok (σ:=Nat) [0,1,12,13] (fun k=>[.vec .order l,.vec .order l,i64 l.length,i64 k]) (fun _=>[]) (fun k=>k ≤ l.length) (fun k=>l.length - k) 0 (by omega) ?_ ?_
 ·exact fD0
 ·intro k hk
  by_cases hlt : k < l.length
  ·conv=>whnf
   repeat' (first|exact trivial|((first|(refine ⟨fun hb=>?_,fun hb=>?_⟩<;>(try simp only [nrm] at hb)<;>try exact kZ hb)|refine kV ?_)<;>(conv=>whnf))|refine kY ?_ ?_)
   refine .to (k + 1) hlt (by omega) ?_
   exact fD0
  ·obtain rfl : k = l.length:=by omega
   exact fD0
theorem sameR_self (l : List (El .reply)) (hl : l.length ≤ 4000000000000) : Api Tryz.prog 46 [.vec .reply l,.vec .reply l] (bol true):=by
 refine aF Tryz.func46 24 ?_
 conv=>whnf
 repeat' (first|exact trivial|((first|(refine ⟨fun hb=>?_,fun hb=>?_⟩<;>(try simp only [nrm] at hb)<;>try exact kZ hb)|refine kV ?_)<;>(conv=>whnf))|refine kY ?_ ?_)
 refine Runs.loopS cfg_ok (σ:=Nat) [0,1,12,13] (fun k=>[.vec .reply l,.vec .reply l,i64 l.length,i64 k]) (fun _=>[]) (fun k=>k ≤ l.length) (fun k=>l.length - k) 0 (by omega) ?_ ?_
 ·exact fD0
 ·intro k hk
  by_cases hlt : k < l.length
  ·conv=>whnf
   repeat' (first|exact trivial|((first|(refine ⟨fun hb=>?_,fun hb=>?_⟩<;>(try simp only [nrm] at hb)<;>try exact kZ hb)|refine kV ?_)<;>(conv=>whnf))|refine kY ?_ ?_)
   refine .to (k + 1) hlt (by omega) ?_
   exact fD0
  ·obtain rfl : k = l.length:=by omega
   exact fD0
def wT0 : Wld:=⟨1,0,0,[],[]⟩
def pT1 : Player:=⟨0,spawnX 1 0,0,newB8,-1,[],false⟩
def pT2 : Player:=⟨0,spawnX 1 0 + 1,0,newB8,-1,[],false⟩
def wT1 : Wld:=⟨1,0,0,[],[pT1]⟩
def wT2 : Wld:=⟨1,0,0,[],[pT2]⟩
def jT : Order:=⟨0,1,⟨1,0,0,0,0⟩⟩
def mT : Order:=⟨0,2,⟨2,1,0,0,0⟩⟩
theorem rT0 : rightW wT0 = true:=by kernel_rfl
theorem rT1 : rightW wT1 = true:=by kernel_rfl
theorem okT0 : OkW wT0:=okW_rw (rightW_iff.1 rT0)
theorem chT1 : chunkW wT1 0 0 = (genC 0 0 0,true):=by
 unfold chunkW
 rw [if_neg (by rw [rT1];decide),if_neg (by decide)];rfl
theorem genT : genC 0 0 0 = ⟨0,0,List.replicate 64 0,[],[]⟩:=by unfold genC;rw [gl_air 0 0 0 (by omega)]
theorem atT1 : atW wT1 (spawnX 1 0 + 1) 0 = (0,true):=by
 unfold atW
 rw [if_neg (by decide),show (spawnX 1 0 + 1) / 8 = 0 by decide,show (0 : Int) / 8 = 0 by decide,chT1,if_neg (by simp),genT]
 rfl
theorem apT1 : applyW wT0 0 ⟨1,0,0,0,0⟩ = (wT1,0):=by kernel_rfl
theorem plT1 : playerW wT1 0 = (pT1,true):=by kernel_rfl
theorem apT2 : applyW wT1 0 ⟨2,1,0,0,0⟩ = (wT2,0):=by
 have hm : actA wT1 pT1 ⟨2,1,0,0,0⟩ = (wT2,0):=by
  show moveA wT1 pT1 ⟨2,1,0,0,0⟩ = (wT2,0)
  unfold moveA
  rw [show pT1.x + (⟨2,1,0,0,0⟩ : Cmd).a = spawnX 1 0 + 1 by rfl,show pT1.y + (⟨2,1,0,0,0⟩ : Cmd).b = 0 by rfl,if_neg (by decide),atT1,if_neg (by simp)]
  kernel_rfl
 unfold applyW
 rw [if_neg (by rw [rT1];simp),if_neg (by decide),plT1,if_neg (by decide),if_neg (by decide),hm,if_neg (by simp)]
theorem sT1 : sortedL [mT,jT] = [jT,mT]:=by
 rw [sorted_ext (m:=[jT,mT]) (fun x=>by simp only [List.mem_cons,List.not_mem_nil,or_false];exact or_comm)]
 exact sorted_self (by simp [keyLt,jT,mT])
theorem sT2 : sortedL [jT,jT] = [jT]:=by
 rw [sorted_ext (m:=[jT]) (fun x=>by simp)]
 exact sorted_self (by simp)
theorem fT1 : foldW wT0 [mT,jT] = (withT wT2 1,[⟨0,1,0⟩,⟨0,2,0⟩],0):=by
 rw [fold_good (rightW_iff.1 rT0) (by decide) (by decide),sT1]
 have h1 : stepW wT0 jT = (wT1,0):=apT1
 have h2 : stepW wT1 mT = (wT2,0):=apT2
 simp only [runW,h1,h2];rfl
theorem fT2 : foldW wT0 [jT,jT] = (withT wT1 1,[⟨0,1,0⟩],0):=by
 rw [fold_good (rightW_iff.1 rT0) (by decide) (by decide),sT2]
 have h1 : stepW wT0 jT = (wT1,0):=apT1
 simp only [runW,h1];rfl
theorem okOT : ∀ o ∈ [mT,jT],OkO o:=by simp [OkO,mT,jT]
theorem okOT2 : ∀ o ∈ [jT,jT],OkO o:=by simp [OkO,jT]
theorem awake17_api  : Api Tryz.prog 43 [] (bol true):=by
 have hn:=wnew_api 1 0
 rw [show newW 1 0 = (wT0,0) by rfl] at hn
 have h1:=fold_api wT0 [mT,jT] okT0 (by decide) okOT
 rw [fT1] at h1
 have h2:=fold_api wT0 [jT,jT] okT0 (by decide) okOT2
 rw [fT2] at h2
 have t1 : (withT wT2 1).tick = 1:=rfl
 generalize hw0 : wT0 = A0 at *
 generalize hw1 : withT wT2 1 = A1 at *
 generalize hw2 : withT wT1 1 = A2 at *
 dsimp only at hn h1 h2
 unfold mT jT at h1
 unfold jT at h2
 refine aF Tryz.func43 70 ?_
 ((try with_reducible refine evCut fun N hN hE hT=>?_);(conv=>whnf))
 repeat' (first|exact trivial|((first|((first|apply hT|apply hE|apply hN);clear hN hE hT)|(refine ⟨fun hb=>?_,fun hb=>?_⟩<;>(try simp only [nrm] at hb)<;>try exact kZ hb)|refine kV ?_)<;>((try with_reducible refine evCut fun N hN hE hT=>?_);(conv=>whnf)))|refine kY ?_ ?_)
 refine callGiveN h1 rfl rfl ?_
 conv=>whnf
 refine ⟨by decide,?_⟩
 conv=>whnf
 refine ⟨by rfl,?_⟩
 repeat' (first|exact trivial|((first|((first|apply hT|apply hE|apply hN);clear hN hE hT)|(refine ⟨fun hb=>?_,fun hb=>?_⟩<;>(try simp only [nrm] at hb)<;>try exact kZ hb)|refine kV ?_)<;>((try with_reducible refine evCut fun N hN hE hT=>?_);(conv=>whnf)))|refine kY ?_ ?_)
 refine callGiveN h2 rfl rfl ?_
 conv=>whnf
 refine ⟨by decide,?_⟩
 conv=>whnf
 refine ⟨by rfl,?_⟩
 repeat' (first|exact trivial|((first|((first|apply hT|apply hE|apply hN);clear hN hE hT)|(refine ⟨fun hb=>?_,fun hb=>?_⟩<;>(try simp only [nrm] at hb)<;>try exact kZ hb)|refine kV ?_)<;>((try with_reducible refine evCut fun N hN hE hT=>?_);(conv=>whnf)))|refine kY ?_ ?_)
 all_goals first|omega|rfl|trace_state
end Go.Proofs.YtkojlembanldcaaGreat
