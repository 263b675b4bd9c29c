/- Parts of homesteadref20. -/
import Derived.Test.YtaecchphjploaaaGreatGy
import Derived.Test.YtaecchphjploaaaGreatGq
import Derived.Test.YtaecchphjploaaaGreatGo
import Derived.Test.YtaecchphjploaaaGreatGx
set_option linter.unusedSimpArgs false
set_option linter.unusedVariables false
set_option maxRecDepth 100000
set_option maxHeartbeats 16000000
namespace Go.Proofs.YtaecchphjploaaaGreat
open Go Go.RowKit Eng
def gG (a b : Chunk) : Chunk:={ b with cells:=a.cells }
def cB (c : Chunk) : List (El .u8):=if ar c = true then aK c else []
def dC (a b : Chunk) : Bool:=ar (gG a b) && eqL (aK (gG a b)) (cB a)
def dg (a b : Chunk) : List (El .i64):=if dC a b = true then co a.cells b.cells a.cells.length else []
theorem rN {a b : Chunk} (ha : ar a = true) (hb : ar b = true) (h : aK a = aK b) : a = b:=by
 have h1:=(bD ha).read
 rw [h,(bD hb).read] at h1
 exact (congrArg Prod.fst h1).symm
theorem ni {c : Chunk} (h : ar c = true) : cB c = aK c:=if_pos h
theorem Cq {a b : Chunk} (ha : ar a = true) (hb : ar b = true) (hx : a.x = b.x) (hy : a.y = b.y) : (turnS a b).2 = dC a b ∧ (dC a b = true → (turnS a b).1 = dg a b):=by
 have hla:=(bD ha).len
 have hlb:=(bD hb).len
 have hk : dC a b = true ↔ a.heaps = b.heaps ∧ a.boxes = b.boxes:=by
  unfold dC
  rw [Bool.and_eq_true,ni ha]
  constructor
  ·rintro ⟨h1,h2⟩
   have h3:=rN h1 ha (of_decide_eq_true h2)
   exact ⟨(congrArg Chunk.heaps h3).symm,(congrArg Chunk.boxes h3).symm⟩
  ·rintro ⟨h1,h2⟩
   have h3 : gG a b = a:=by
    obtain ⟨x,y,cs,hs,bs⟩:=a
    obtain ⟨x',y',cs',hs',bs'⟩:=b
    dsimp only at hx hy h1 h2
    subst hx hy h1 h2
    rfl
   rw [h3]
   exact ⟨ha,decide_eq_true rfl⟩
 unfold turnS dg
 by_cases h : a.heaps = b.heaps ∧ a.boxes = b.boxes
 ·have h2:=hk.2 h
  rw [h2,if_pos (by rw [bu.2 h.1,bu.2 h.2];rfl),if_pos rfl,hla,hlb]
  exact ⟨rfl,fun _=>rfl⟩
 ·have h2 : dC a b = false:=by
   cases hx : dC a b with
   | false=>rfl
   | true=>exact absurd (hk.1 hx) h
  rw [h2,if_neg (by rw [Bool.and_eq_true,bu,bu];exact h)]
  exact ⟨rfl,fun h=>by cases h⟩
theorem Cr {a b : Chunk} (ha : ar a = true) (hb : ar b = true) (hx : a.x = b.x) (hy : a.y = b.y) : cB a = cB b ↔ (turnS a b).2 = true ∧ (turnS a b).1.length = 0:=by
 have hla:=(bD ha).len
 have hlb:=(bD hb).len
 rw [ni ha,ni hb]
 constructor
 ·intro h
  obtain rfl:=rN ha hb h
  rw [tr]
  exact ⟨rfl,rfl⟩
 ·rintro ⟨h1,h2⟩
  unfold turnS at h1 h2
  by_cases h : (eqv a.heaps b.heaps && eqv a.boxes b.boxes) = true
  ·rw [if_pos h] at h2
   dsimp only at h2
   rw [Bool.and_eq_true,bu,bu] at h
   have h3:=pD (a:=a.cells) (b:=b.cells) (by rw [hla,hlb])
   rw [List.length_eq_zero_iff.1 h2] at h3
   have h4 : a.cells = b.cells:=h3
   have h5 : a = b:=by
    obtain ⟨x,y,cs,hs,bs⟩:=a
    obtain ⟨x',y',cs',hs',bs'⟩:=b
    dsimp only at hx hy h h4
    obtain ⟨e1,e2⟩:=h
    subst hx hy h4 e1 e2
    rfl
   rw [h5]
  ·rw [if_neg h] at h1;cases h1
structure D2 (was : Chunk × Bool) (c : Chunk) : Prop where
 w1 : was.2 = false → formY was c = bH c
 w2 : was.2 = true → cB was.1 = cB c → formY was c = an [0]
 w3 : was.2 = true → ¬ cB was.1 = cB c → 1 ≤ (dg was.1 c).length → (dg was.1 c).length ≤ 16 → formY was c = e_ c (dg was.1 c)
 w4 : was.2 = true → ¬ cB was.1 = cB c → (dg was.1 c).length = 0 → formY was c = bH c
 w5 : was.2 = true → ¬ cB was.1 = cB c → 16 < (dg was.1 c).length → formY was c = bH c
theorem D3 {v : Viw} (hv : baseB v = true) {c : Chunk} (hc : ar c = true) : D2 (aA v c.x c.y) c:=by
 cases hf : (aA v c.x c.y).2 with
 | false =>
  have e : formY (aA v c.x c.y) c = bH c:=by
   unfold formY
   rw [hf,Bool.false_and,if_neg (by simp)]
  exact ⟨fun _=>e,fun h=>(by cases h.symm.trans hf),fun h=>(by cases h.symm.trans hf),fun h=>(by cases h.symm.trans hf),fun h=>(by cases h.symm.trans hf)⟩
 | true =>
  obtain ⟨h1,h2,h3⟩:=gi hf
  have ha:=jM hv _ h1
  obtain ⟨k1,k2⟩:=Cq ha hc h2 h3
  have k3:=Cr ha hc h2 h3
  generalize aA v c.x c.y = W at *
  obtain ⟨a,t⟩:=W
  dsimp only at *
  subst hf
  have e : formY (a,true) c = if (turnS a c).2 = true then (if (turnS a c).1.length = 0 then an [0] else if (turnS a c).1.length ≤ 16 then e_ c (turnS a c).1 else bH c) else bH c:=by
   unfold formY
   simp only [Bool.true_and]
  refine ⟨fun h=>(by cases h),fun _ h=>?_,fun _ h4 h5 h6=>?_,fun _ h4 h5=>?_,fun _ h4 h5=>?_⟩
  all_goals (dsimp only at *;rw [e])
  ·obtain ⟨m1,m2⟩:=k3.1 h
   rw [if_pos m1,if_pos m2]
  ·have hk : dC a c = true:=by
    cases hx : dC a c with
    | true=>rfl
    | false =>
     have : dg a c = []:=if_neg (by rw [hx];simp)
     rw [this] at h5;simp at h5
   rw [hk] at k1
   rw [if_pos k1,k2 hk,if_neg (by omega),if_pos (by omega)]
  ·cases hx : dC a c with
   | true =>
    rw [hx] at k1
    exact absurd (k3.2 ⟨k1,by rw [k2 hx];exact h5⟩) h4
   | false =>
    rw [hx] at k1
    rw [if_neg (by rw [k1];simp)]
  ·have hk : dC a c = true:=by
    cases hx : dC a c with
    | true=>rfl
    | false =>
     have : dg a c = []:=if_neg (by rw [hx];simp)
     rw [this] at h5;simp at h5
   rw [hk] at k1
   rw [if_pos k1,k2 hk,if_neg (by omega),if_neg (by omega)]
open Go Go.RowKit Eng
def dS (b : List Int) (s : Rd) : aG × Rd:=
 (⟨(ac b B40 s).1 % 256,(ac b B40 (if 255 < (ac b B40 s).1 then ⟨(ac b B40 s).2.pos,true⟩ else (ac b B40 s).2)).1⟩,(ac b B40 (if 255 < (ac b B40 s).1 then ⟨(ac b B40 s).2.pos,true⟩ else (ac b B40 s).2)).2)
def cK (b : List Int) : Nat → List Int → Rd → List Int × Rd
 | 0,l,s=>(l,s)
 | n + 1,l,s=>if s.bad = true then (l,s) else if 63 < (ac b B40 s).1 ∨ 255 < (ac b B40 (ac b B40 s).2).1 then (l,⟨(ac b B40 (ac b B40 s).2).2.pos,true⟩) else cK b n (l.set (ac b B40 s).1.toNat (ac b B40 (ac b B40 s).2).1) (ac b B40 (ac b B40 s).2).2
def eU (b : List Int) (was : Chunk × Bool) (x y fm : Int) (s : Rd) : Chunk × Rd:=
 if fm = 0 ∧ was.2 = true then (was.1,s)
 else if fm = 1 ∧ was.2 = true then
  ({ was.1 with cells:=(cK b (ac b B40 s).1.toNat was.1.cells (ac b B40 s).2).1 },(cK b (ac b B40 s).1.toNat was.1.cells (ac b B40 s).2).2)
 else if fm = 2 then db b x y s
 else (bf,⟨s.pos,true⟩)
def cF (b : List Int) (v : Viw) (s : Rd) : Chunk × Rd:=
 eU b (aA v (ac b B40 s).1 (ac b B40 (ac b B40 s).2).1) (ac b B40 s).1 (ac b B40 (ac b B40 s).2).1 (ac b B40 (ac b B40 (ac b B40 s).2).2).1 (ac b B40 (ac b B40 (ac b B40 s).2).2).2
def nj (b : List Int) (w : Int) (s : Rd) : List aG × Rd:=if w - 1 = -1 then ([],s) else ao (dS b) 8 s
def tkN (v : Viw) (b : List Int) : TkK b:=
 let t:=ac b B40 ⟨0,false⟩
 let id:=ac b B40 t.2
 let x:=ac b B40 id.2
 let y:=ac b B40 x.2
 let bag:=ao (dS b) 8 y.2
 let w:=ac b B40 bag.2
 let ag:=ac b B40 w.2
 let off:=nj b w.1 ag.2
 let nc:=ac b B40 off.2
 let cs:=ao (cF b v) nc.1.toNat nc.2
 let no:=ac b B40 cs.2
 let os:=ao (ck b) no.1.toNat no.2
 ⟨t,id,x,y,bag,w,ag,off,nc,cs,no,os⟩
def fD {b : List Int} (k : TkK b) : Viw:=⟨k.t.1,⟨k.id.1,k.x.1,k.y.1,k.bag.1,k.w.1 - 1,k.off.1,decide (k.ag.1 = 1)⟩,k.cs.1,k.os.1⟩
structure Imp {α : Type} (f g : Rd → α × Rd) : Prop where
 fine : ∀ s,(g s).2.bad = false → f s = g s
theorem fu {α : Type} {g : Rd → α × Rd} (hg : ∀ s,s.bad = true → (g s).2.bad = true) {s : Rd} (h : (g s).2.bad = false) : s.bad = false:=by
 cases hx : s.bad with
 | false=>rfl
 | true=>rw [hg s hx] at h;cases h
theorem gU {b : List Int} {m : Nat} {s : Rd} (h : (ac b m s).2.bad = false) : s.bad = false:=fu (fun s=>bg) h
theorem Fv {b : List Int} {m : Nat} (hm : m ≤ B40) : Imp (ac b B40) (ac b m):=⟨fun s h=>by
 have hs:=gU h
 rw [dq hs] at h ⊢
 rw [dq hs]
 by_cases h1 : (guN b s.pos).2.2 = 0 ∧ (guN b s.pos).1 ≤ m
 ·rw [if_pos h1,if_pos ⟨h1.1,Nat.le_trans h1.2 hm⟩]
 ·rw [if_neg h1] at h;cases h⟩
theorem ga {b : List Int} {m : Nat} (hm : m ≤ B40) {s : Rd} (h : (ac b m s).2.bad = false) : ac b B40 s = ac b m s:=(Fv hm).fine s h
theorem l5 {b : List Int} {s : Rd} (h : s.bad = true) : (bG b B40 s).2.bad = true:=bg (bg h)
theorem wF (b : List Int) : Imp (dS b) (bG b B40):=⟨fun s h=>by
 have h1 : (ac b 255 s).2.bad = false:=gU h
 have h2:=ga (m:=255) (by decide) h1
 have h3:=bt (b:=b) (most:=255) (s:=s)
 unfold dS bG
 rw [h2,if_neg (by omega),Int.emod_eq_of_lt h3.1 (by omega)]⟩
theorem sD {α : Type} {f g : Rd → α × Rd} (h : Imp f g) (hg : ∀ s,s.bad = true → (g s).2.bad = true) : ∀ n,Imp (ao f n) (aO g n)
 | 0=>⟨fun _ _=>rfl⟩
 | n + 1=>⟨fun s hb=>by
  have ih:=sD h hg n
  unfold aO at hb ⊢
  dsimp only at hb
  have h1 : (g s).2.bad = false:=fu (fun s h=>iE hg n s h) hb
  have hs : s.bad = false:=fu hg h1
  unfold ao
  rw [if_neg (by rw [hs];simp),h.fine s h1,ih.fine _ hb]⟩
theorem lJ {α : Type} {g : Rd → α × Rd} {n : Nat} {s : Rd} (h : s.bad = true) : (ao g n s).2.bad = true:=by rw [cA n s h];exact h
theorem wG {α : Type} {f g : Rd → α × Rd} (h : Imp f g) : ∀ n,Imp (ao f n) (ao g n)
 | 0=>⟨fun _ _=>rfl⟩
 | n + 1=>⟨fun s hb=>by
  have ih:=wG h n
  unfold ao at hb ⊢
  by_cases hs : s.bad = true
  ·rw [if_pos hs,if_pos hs]
  ·rw [if_neg hs] at hb
   rw [if_neg hs,if_neg hs]
   dsimp only at hb
   have h1 : (g s).2.bad = false:=fu (fun s h=>lJ h) hb
   rw [h.fine s h1,ih.fine _ hb]⟩
theorem nk {b : List Int} : ∀ (n : Nat) (l : List Int) (s : Rd),s.bad = true → (bV b n l s).2.bad = true
 | 0,_,_,h=>h
 | _ + 1,_,_,h=>by unfold bV;rw [if_pos h];exact h
theorem tO {b : List Int} : ∀ (n : Nat) (l : List Int) (s : Rd),(bV b n l s).2.bad = false → cK b n l s = bV b n l s
 | 0,_,_,_=>rfl
 | n + 1,l,s,h=>by
  unfold bV at h ⊢
  unfold cK
  by_cases hs : s.bad = true
  ·rw [if_pos hs,if_pos hs]
  ·rw [if_neg hs] at h
   rw [if_neg hs,if_neg hs]
   have h1 : (ac b 255 (ac b 63 s).2).2.bad = false:=fu (g:=fun t=>bV b n (l.set (ac b 63 s).1.toNat (ac b 255 (ac b 63 s).2).1) t) (fun s h=>nk n _ s h) h
   have h2 : (ac b 63 s).2.bad = false:=gU h1
   rw [ga (m:=63) (by decide) h2,ga (m:=255) (by decide) h1]
   have h3:=bt (b:=b) (most:=63) (s:=s)
   have h4:=bt (b:=b) (most:=255) (s:=(ac b 63 s).2)
   rw [if_neg (by omega)]
   exact tO n _ _ h
theorem nl {b : List Int} {x y : Int} {s : Rd} (h : s.bad = true) : (db b x y s).2.bad = true:=by unfold db;rw [if_pos h];exact h
theorem Cs {b : List Int} {was : Chunk × Bool} {x y fm : Int} {s : Rd} (h : s.bad = true) : (cq b was x y fm s).2.bad = true:=by
 unfold cq
 split
 ·exact nl h
 ·split
  ·rfl
  ·split
   ·exact nk _ _ _ (bg h)
   ·exact h
theorem D4 {b : List Int} {was : Chunk × Bool} {x y fm : Int} (hf : 0 ≤ fm ∧ fm ≤ (2 : Nat)) {s : Rd} (h : (cq b was x y fm s).2.bad = false) : eU b was x y fm s = cq b was x y fm s:=by
 by_cases h2 : fm = 2
 ·have eN : eU b was x y fm s = db b x y s:=(if_neg fun q=>absurd q.1 (by omega)).trans ((if_neg fun q=>absurd q.1 (by omega)).trans (if_pos h2))
  have eR : cq b was x y fm s = db b x y s:=if_pos h2
  rw [eN,eR]
 ·cases hw : was.2 with
  | false =>
   have eR : cq b was x y fm s = (bf,⟨s.pos,true⟩):=(if_neg h2).trans (if_pos hw)
   rw [eR] at h;cases h
  | true =>
   by_cases h1 : fm = 1
   ·have eR : cq b was x y fm s = ({ was.1 with cells:=(bV b (ac b 16 s).1.toNat was.1.cells (ac b 16 s).2).1 },(bV b (ac b 16 s).1.toNat was.1.cells (ac b 16 s).2).2):=(if_neg h2).trans ((if_neg (by rw [hw];simp)).trans (if_pos h1))
    have eN : eU b was x y fm s = ({ was.1 with cells:=(cK b (ac b B40 s).1.toNat was.1.cells (ac b B40 s).2).1 },(cK b (ac b B40 s).1.toNat was.1.cells (ac b B40 s).2).2):=(if_neg fun q=>absurd q.1 (by omega)).trans (if_pos ⟨h1,hw⟩)
    rw [eR] at h ⊢
    have h3 : (ac b 16 s).2.bad = false:=fu (g:=fun t=>bV b (ac b 16 s).1.toNat was.1.cells t) (fun s h=>nk _ _ s h) h
    rw [eN,ga (m:=16) (by decide) h3,tO _ _ _ h]
   ·have eR : cq b was x y fm s = (was.1,s):=(if_neg h2).trans ((if_neg (by rw [hw];simp)).trans (if_neg h1))
    have eN : eU b was x y fm s = (was.1,s):=if_pos ⟨by omega,hw⟩
    rw [eN,eR]
theorem Ct (b : List Int) (v : Viw) : Imp (cF b v) (br b v):=⟨fun s h=>by
 unfold br at h ⊢
 unfold cF
 dsimp only at h ⊢
 have h1 : (ac b 2 (ac b B40 (ac b B40 s).2).2).2.bad = false:=fu (g:=fun t=>cq b (aA v (ac b B40 s).1 (ac b B40 (ac b B40 s).2).1) (ac b B40 s).1 (ac b B40 (ac b B40 s).2).1 (ac b 2 (ac b B40 (ac b B40 s).2).2).1 t) (fun s h=>Cs h) h
 rw [ga (m:=2) (by decide) h1]
 exact D4 bt h⟩
theorem Fw {b : List Int} {w : Int} {s : Rd} (hw : 0 ≤ w) (h : (if 0 ≤ w - 1 then aO (bG b B40) 8 s else ([],s)).2.bad = false) : nj b w s = (if 0 ≤ w - 1 then aO (bG b B40) 8 s else ([],s)):=by
 unfold nj
 by_cases h1 : 0 ≤ w - 1
 ·rw [if_pos h1] at h
  rw [if_pos h1,if_neg (by omega)]
  exact (sD (wF b) (fun s h=>l5 h) 8).fine s h
 ·rw [if_neg h1,if_pos (by omega)]
theorem wH {v : Viw} {b : List Int} (h : (tkK v b).os.2.bad = false) : tkN v b = tkK v b:=by
 have e1 : (tkK v b).no.2.bad = false:=fu (g:=ao (ck b) (tkK v b).no.1.toNat) (fun s h=>lJ h) h
 have e2 : (tkK v b).cs.2.bad = false:=gU (m:=32) e1
 have e3 : (tkK v b).nc.2.bad = false:=fu (g:=ao (br b v) (tkK v b).nc.1.toNat) (fun s h=>lJ h) e2
 have e4 : (tkK v b).off.2.bad = false:=gU (m:=49) e3
 have e5 : (tkK v b).ag.2.bad = false:=by
  refine fu (g:=fun t=>if 0 ≤ (tkK v b).w.1 - 1 then aO (bG b B40) 8 t else (([] : List aG),t)) (fun s h=>?_) e4
  by_cases hc : 0 ≤ (tkK v b).w.1 - 1
  ·rw [if_pos hc];exact iE (fun s h=>l5 h) 8 _ h
  ·rw [if_neg hc];exact h
 have e6 : (tkK v b).w.2.bad = false:=gU (m:=1) e5
 have e7 : (tkK v b).bag.2.bad = false:=gU (m:=B40) e6
 have f1 : (tkN v b).bag = (tkK v b).bag:=(sD (wF b) (fun s h=>l5 h) 8).fine (tkK v b).y.2 e7
 have f2 : (tkN v b).w = (tkK v b).w:=by
  show ac b B40 (tkN v b).bag.2 = _
  rw [f1];rfl
 have f3 : (tkN v b).ag = (tkK v b).ag:=by
  show ac b B40 (tkN v b).w.2 = _
  rw [f2];exact ga (m:=1) (by decide) e5
 have f4 : (tkN v b).off = (tkK v b).off:=by
  show nj b (tkN v b).w.1 (tkN v b).ag.2 = _
  rw [f2,f3]
  exact Fw (bt (b:=b) (most:=B40) (s:=(tkK v b).bag.2)).1 e4
 have f5 : (tkN v b).nc = (tkK v b).nc:=by
  show ac b B40 (tkN v b).off.2 = _
  rw [f4];exact ga (m:=49) (by decide) e3
 have f6 : (tkN v b).cs = (tkK v b).cs:=by
  show ao (cF b v) (tkN v b).nc.1.toNat (tkN v b).nc.2 = _
  rw [f5];exact (wG (Ct b v) _).fine _ e2
 have f7 : (tkN v b).no = (tkK v b).no:=by
  show ac b B40 (tkN v b).cs.2 = _
  rw [f6];exact ga (m:=32) (by decide) e1
 have f8 : (tkN v b).os = (tkK v b).os:=by
  show ao (ck b) (tkN v b).no.1.toNat (tkN v b).no.2 = _
  rw [f7];rfl
 have q : tkN v b = ⟨(tkN v b).t,(tkN v b).id,(tkN v b).x,(tkN v b).y,(tkN v b).bag,(tkN v b).w,(tkN v b).ag,(tkN v b).off,(tkN v b).nc,(tkN v b).cs,(tkN v b).no,(tkN v b).os⟩:=rfl
 rw [q,f1,f2,f3,f4,f5,f6,f7,f8]
 rfl
structure D5 (v : Viw) (b : List Int) (R : Viw × Int) : Prop where
 w1 : baseB v = false → R = (aE,113)
 w2 : baseB v = true → (tkN v b).os.2.bad = true → R = (aE,120)
 w3 : baseB v = true → ¬ (tkN v b).os.2.pos = b.length → R = (aE,120)
 w4 : baseB v = true → ¬ (makeB v (fD (tkN v b)) = true ∧ makeY v (fD (tkN v b)) = b) → R = (aE,120)
 w5 : baseB v = true → makeB v (fD (tkN v b)) = true → makeY v (fD (tkN v b)) = b → R = (fD (tkN v b),0)
theorem wI (v : Viw) (b : List Int) : D5 v b (takeY v b):=by
 cases hB : baseB v with
 | false =>
  have e : takeY v b = (aE,113):=if_pos hB
  exact ⟨fun _=>e,fun h=>(by rw [hB] at h;cases h),fun h=>(by rw [hB] at h;cases h),fun h=>(by rw [hB] at h;cases h),fun h=>(by rw [hB] at h;cases h)⟩
 | true =>
  have e0 : takeY v b = if (tkK v b).os.2.bad = true ∨ ¬ (tkK v b).os.2.pos = b.length then (aE,120) else if makeB v (bM v b) = true ∧ makeY v (bM v b) = b then (bM v b,0) else (aE,120):=if_neg (by rw [hB];simp)
  have w5 : makeB v (fD (tkN v b)) = true → makeY v (fD (tkN v b)) = b → takeY v b = (fD (tkN v b),0):=fun h1 h2=>by
   have h3:=om (v:=v) (n:=fD (tkN v b)) (by unfold makeB at h1;rw [Bool.and_eq_true] at h1;exact h1.1) hB
   rw [h2] at h3;exact h3
  have hno : ((tkK v b).os.2.bad = false → (tkK v b).os.2.pos = b.length → ¬ (makeB v (bM v b) = true ∧ makeY v (bM v b) = b)) → takeY v b = (aE,120):=fun h=>by
   rw [e0]
   by_cases h1 : (tkK v b).os.2.bad = true ∨ ¬ (tkK v b).os.2.pos = b.length
   ·rw [if_pos h1]
   ·rw [if_neg h1,if_neg]
    refine h ?_ ?_
    ·cases hx : (tkK v b).os.2.bad with
     | false=>rfl
     | true=>exact absurd (.inl hx) h1
    ·exact Decidable.not_not.1 fun h2=>h1 (.inr h2)
  refine ⟨fun h=>(by rw [hB] at h;cases h),fun _ h=>hno fun h1 _=>?_,fun _ h=>hno fun h1 h2=>?_,fun _ h=>hno fun h1 _=>?_,fun _=>w5⟩
  ·rw [wH h1,h1] at h;cases h
  ·rw [wH h1] at h;exact absurd h2 h
  ·rw [wH h1] at h;exact h
open Go Go.RowKit Eng
structure gV (b : List Int) {α : Type} (f : Rd → α × Rd) : Prop where
 stay : ∀ s,s.bad = true → (f s).2.bad = true
 le : ∀ s,s.pos ≤ b.length → s.pos ≤ (f s).2.pos ∧ (f s).2.pos ≤ b.length
theorem Cu : ∀ (f n : Nat),1 ≤ (aC f n).length
 | 0,_=>Nat.le_refl _
 | f + 1,n=>by
  show 1 ≤ (if n < 128 then [(n : Int)] else ((n % 128 + 128 : Nat) : Int) :: aC f (n / 128)).length
  split<;>simp
theorem sE {b : List Int} (h8 : au b) {m : Nat} (hm : m < 2 * 128 ^ 9) {s : Rd} (hp : s.pos ≤ b.length) : (ac b m s).2.bad = true ∨ s.pos < (ac b m s).2.pos:=by
 cases h : (ac b m s).2.bad with
 | true=>exact .inl rfl
 | false =>
  obtain ⟨_,_,h3,_,_⟩:=(iY h8 hm).read s hp h
  have:=Cu 9 (ac b m s).1.toNat
  have h4 : (ac b m s).2.pos = s.pos + (aC 9 (ac b m s).1.toNat).length:=h3
  right;omega
theorem D6 {b : List Int} (h8 : au b) {m : Nat} (hm : m < 2 * 128 ^ 9) : gV b (ac b m):=by
 refine ⟨fun s=>bg,fun s hp=>⟨?_,av h8 hp⟩⟩
 cases hs : s.bad with
 | true=>rw [dy hs];exact Nat.le_refl _
 | false =>
  rcases sE h8 hm hp with h|h
  ·rw [dq hs] at h ⊢
   split
   ·rename_i h1;rw [if_pos h1] at h;cases h
   ·exact Nat.le_refl _
  ·omega
theorem n40 {b : List Int} (h8 : au b) : gV b (ac b B40):=D6 h8 (by decide)
theorem gV.then {α β γ : Type} {b : List Int} {f : Rd → α × Rd} {g : α → Rd → β × Rd} (mk : α → β → γ) (hf : gV b f) (hg : ∀ a,gV b (g a)) : gV b (fun s=>(mk (f s).1 (g (f s).1 (f s).2).1,(g (f s).1 (f s).2).2)):=by
 refine ⟨fun s h=>(hg _).stay _ (hf.stay s h),fun s hp=>?_⟩
 obtain ⟨h1,h2⟩:=hf.le s hp
 obtain ⟨h3,h4⟩:=(hg (f s).1).le (f s).2 h2
 exact ⟨Nat.le_trans h1 h3,h4⟩
theorem rO {b : List Int} (h8 : au b) : gV b (dS b):=by
 refine ⟨fun s h=>?_,fun s hp=>?_⟩
 ·unfold dS
  dsimp only
  split
  ·exact bg rfl
  ·exact bg (bg h)
 ·obtain ⟨h1,h2⟩:=(n40 h8).le s hp
  have h3:=(n40 h8).le (if 255 < (ac b B40 s).1 then ⟨(ac b B40 s).2.pos,true⟩ else (ac b B40 s).2) (by split<;>exact h2)
  have h4 : (if 255 < (ac b B40 s).1 then (⟨(ac b B40 s).2.pos,true⟩ : Rd) else (ac b B40 s).2).pos = (ac b B40 s).2.pos:=by split<;>rfl
  rw [h4] at h3
  exact ⟨Nat.le_trans h1 h3.1,h3.2⟩
theorem lK {α : Type} {b : List Int} {f : Rd → α × Rd} (hf : gV b f) : ∀ n,gV b (ao f n)
 | 0=>⟨fun _ h=>h,fun _ hp=>⟨Nat.le_refl _,hp⟩⟩
 | n + 1=>by
  have ih:=lK hf n
  refine ⟨fun s h=>lJ h,fun s hp=>?_⟩
  unfold ao
  by_cases hs : s.bad = true
  ·rw [if_pos hs];exact ⟨Nat.le_refl _,hp⟩
  ·rw [if_neg hs]
   obtain ⟨h1,h2⟩:=hf.le s hp
   obtain ⟨h3,h4⟩:=ih.le (f s).2 h2
   exact ⟨Nat.le_trans h1 h3,h4⟩
theorem l6 {b : List Int} (h8 : au b) : ∀ (n : Nat) (l : List Int),gV b (cK b n l)
 | 0,_=>⟨fun _ h=>h,fun _ hp=>⟨Nat.le_refl _,hp⟩⟩
 | n + 1,l=>by
  refine ⟨fun s h=>by unfold cK;rw [if_pos h];exact h,fun s hp=>?_⟩
  unfold cK
  obtain ⟨h1,h2⟩:=(n40 h8).le s hp
  obtain ⟨h3,h4⟩:=(n40 h8).le (ac b B40 s).2 h2
  split
  ·exact ⟨Nat.le_refl _,hp⟩
  ·split
   ·exact ⟨Nat.le_trans h1 h3,h4⟩
   ·obtain ⟨h5,h6⟩:=(l6 h8 n (l.set (ac b B40 s).1.toNat (ac b B40 (ac b B40 s).2).1)).le (ac b B40 (ac b B40 s).2).2 h4
    exact ⟨Nat.le_trans h1 (Nat.le_trans h3 h5),h6⟩
theorem Am {b : List Int} (h8 : au b) {x y : Int} : gV b (db b x y):=by
 refine ⟨fun s h=>nl h,fun s hp=>?_⟩
 unfold db
 split
 ·exact ⟨Nat.le_refl _,hp⟩
 ·split
  ·exact ⟨Nat.le_refl _,hp⟩
  ·rename_i h
   have h1 : (dR b 5000 s).2.bad = false:=by
    cases hx : (dR b 5000 s).2.bad with
    | false=>rfl
    | true=>exact absurd (.inl hx) h
   obtain ⟨_,_,h3,h4,_⟩:=(tK h8 (most:=5000) (by decide)).read s hp h1
   exact ⟨by show s.pos ≤ (dR b 5000 s).2.pos;omega,h4⟩
theorem jO {b : List Int} (h8 : au b) {was : Chunk × Bool} {x y fm : Int} : gV b (eU b was x y fm):=by
 refine ⟨fun s h=>?_,fun s hp=>?_⟩
 ·unfold eU
  split
  ·exact h
  ·split
   ·exact (l6 h8 _ _).stay _ (bg h)
   ·split
    ·exact nl h
    ·rfl
 ·unfold eU
  split
  ·exact ⟨Nat.le_refl _,hp⟩
  ·split
   ·obtain ⟨h1,h2⟩:=(n40 h8).le s hp
    obtain ⟨h3,h4⟩:=(l6 h8 (ac b B40 s).1.toNat was.1.cells).le (ac b B40 s).2 h2
    exact ⟨Nat.le_trans h1 h3,h4⟩
   ·split
    ·exact (Am h8).le s hp
    ·exact ⟨Nat.le_refl _,hp⟩
theorem l7 {b : List Int} (h8 : au b) {v : Viw} : gV b (cF b v):=by
 refine ⟨fun s h=>?_,fun s hp=>?_⟩
 ·unfold cF
  exact (jO h8).stay _ (bg (bg (bg h)))
 ·unfold cF
  obtain ⟨h1,h2⟩:=(n40 h8).le s hp
  obtain ⟨h3,h4⟩:=(n40 h8).le (ac b B40 s).2 h2
  obtain ⟨h5,h6⟩:=(n40 h8).le (ac b B40 (ac b B40 s).2).2 h4
  obtain ⟨h7,h9⟩:=(jO h8 (was:=aA v (ac b B40 s).1 (ac b B40 (ac b B40 s).2).1) (x:=(ac b B40 s).1) (y:=(ac b B40 (ac b B40 s).2).1) (fm:=(ac b B40 (ac b B40 (ac b B40 s).2).2).1)).le (ac b B40 (ac b B40 (ac b B40 s).2).2).2 h6
  exact ⟨by omega,h9⟩
theorem An {b : List Int} (h8 : au b) {v : Viw} {s : Rd} (hp : s.pos ≤ b.length) : (cF b v s).2.bad = true ∨ s.pos < (cF b v s).2.pos:=by
 rcases sE h8 (m:=B40) (by decide) hp with h|h
 ·left
  unfold cF
  exact (jO h8).stay _ (bg (bg h))
 ·right
  obtain ⟨h1,h2⟩:=(n40 h8).le s hp
  unfold cF
  obtain ⟨h3,h4⟩:=(n40 h8).le (ac b B40 s).2 h2
  obtain ⟨h5,h6⟩:=(n40 h8).le (ac b B40 (ac b B40 s).2).2 h4
  obtain ⟨h7,h9⟩:=(jO h8 (was:=aA v (ac b B40 s).1 (ac b B40 (ac b B40 s).2).1) (x:=(ac b B40 s).1) (y:=(ac b B40 (ac b B40 s).2).1) (fm:=(ac b B40 (ac b B40 (ac b B40 s).2).2).1)).le (ac b B40 (ac b B40 (ac b B40 s).2).2).2 h6
  omega
theorem Ao {b : List Int} (h8 : au b) : gV b (ck b):=by
 refine ⟨fun s h=>bg (bg (bg h)),fun s hp=>?_⟩
 obtain ⟨h1,h2⟩:=(n40 h8).le s hp
 obtain ⟨h3,h4⟩:=(n40 h8).le (ac b B40 s).2 h2
 obtain ⟨h5,h6⟩:=(n40 h8).le (ac b B40 (ac b B40 s).2).2 h4
 exact ⟨Nat.le_trans h1 (Nat.le_trans h3 h5),h6⟩
theorem Cv {b : List Int} (h8 : au b) {s : Rd} (hp : s.pos ≤ b.length) : (ck b s).2.bad = true ∨ s.pos < (ck b s).2.pos:=by
 rcases sE h8 (m:=B40) (by decide) hp with h|h
 ·exact .inl (bg (bg h))
 ·right
  obtain ⟨h1,h2⟩:=(n40 h8).le s hp
  obtain ⟨h3,h4⟩:=(n40 h8).le (ac b B40 s).2 h2
  obtain ⟨h5,h6⟩:=(n40 h8).le (ac b B40 (ac b B40 s).2).2 h4
  show s.pos < (ac b B40 (ac b B40 (ac b B40 s).2).2).2.pos
  omega
theorem nm {α : Type} {b : List Int} {f : Rd → α × Rd} (hf : gV b f) (ha : ∀ s,s.pos ≤ b.length → (f s).2.bad = true ∨ s.pos < (f s).2.pos) : ∀ (n : Nat) (s : Rd),s.pos ≤ b.length → (ao f n s).1.length + s.pos ≤ b.length + 1
 | 0,s,hp=>by show 0 + s.pos ≤ _;omega
 | n + 1,s,hp=>by
  unfold ao
  by_cases hs : s.bad = true
  ·rw [if_pos hs];show 0 + s.pos ≤ _;omega
  ·rw [if_neg hs]
   dsimp only
   rw [List.length_cons]
   have h2:=(hf.le s hp).2
   have ih:=nm hf ha n (f s).2 h2
   rcases ha s hp with h|h
   ·rw [cA n _ h];simp;omega
   ·omega
theorem tP {b : List Int} : ∀ (n : Nat) (l : List Int) (s : Rd),au l → au (cK b n l s).1 ∧ (cK b n l s).1.length = l.length
 | 0,l,s,h=>⟨h,rfl⟩
 | n + 1,l,s,h=>by
  unfold cK
  split
  ·exact ⟨h,rfl⟩
  ·split
   ·exact ⟨h,rfl⟩
   ·rename_i hc
    have h1:=bt (b:=b) (most:=B40) (s:=(ac b B40 s).2)
    have h2 : au (l.set (ac b B40 s).1.toNat (ac b B40 (ac b B40 s).2).1):=fun i hi=>by
     rcases List.mem_or_eq_of_mem_set hi with hi|rfl
     ·exact h i hi
     ·omega
    obtain ⟨h3,h4⟩:=tP n _ (ac b B40 (ac b B40 s).2).2 h2
    exact ⟨h3,by rw [h4,List.length_set]⟩
theorem wJ {b : List Int} (h8 : au b) : OkC (bh b).1:=by
 by_cases h : (bh b).2 = 0
 ·exact fU (pE h8 h).2
 ·have e : (bh b).1 = bf:=by
   unfold bh at h ⊢
   split
   ·rfl
   ·rename_i c1
    rw [if_neg c1] at h
    split
    ·rfl
    ·rename_i c2
     rw [if_neg c2] at h
     exact absurd rfl h
  rw [e];exact dY
theorem wK {b : List Int} (h8 : au b) {m : Nat} {s : Rd} : au (dR b m s).1:=by
 unfold dR
 split
 ·intro i hi;cases hi
 ·split
  ·intro i hi;cases hi
  ·exact fun i hi=>h8 i (List.mem_of_mem_drop (List.mem_of_mem_take hi))
theorem D7 {b : List Int} (h8 : au b) {was : Chunk × Bool} (hw : OkC was.1) {x y fm : Int} {s : Rd} : OkC (eU b was x y fm s).1:=by
 unfold eU
 split
 ·exact hw
 ·split
  ·obtain ⟨h1,h2⟩:=tP (b:=b) (ac b B40 s).1.toNat was.1.cells (ac b B40 s).2 hw.cells
   exact ⟨h1,hw.heaps,hw.boxes,by show (cK b _ _ _).1.length ≤ big;rw [h2];exact hw.nc,hw.nh,hw.nb⟩
  ·split
   ·unfold db
    split
    ·exact dY
    ·split
     ·exact wJ (wK h8)
     ·exact wJ (wK h8)
   ·exact dY
theorem Cw {b : List Int} (h8 : au b) {v : Viw} (hv : baseB v = true) {s : Rd} : OkC (cF b v s).1:=D7 h8 (eS hv).2
theorem D8 {b : List Int} {s : Rd} : bP (dS b s).1:=by
 show 0 ≤ (ac b B40 s).1 % 256 ∧ (ac b B40 s).1 % 256 ≤ 255
 omega
structure Gs (v : Viw) (b : List Int) : Prop where
 p1 : (tkN v b).t.2.pos ≤ b.length
 p2 : (tkN v b).id.2.pos ≤ b.length
 p3 : (tkN v b).x.2.pos ≤ b.length
 p4 : (tkN v b).y.2.pos ≤ b.length
 p5 : (tkN v b).bag.2.pos ≤ b.length
 p6 : (tkN v b).w.2.pos ≤ b.length
 p7 : (tkN v b).ag.2.pos ≤ b.length
 p8 : (tkN v b).off.2.pos ≤ b.length
 p9 : (tkN v b).nc.2.pos ≤ b.length
 p10 : (tkN v b).cs.2.pos ≤ b.length
 p11 : (tkN v b).no.2.pos ≤ b.length
 lc : (tkN v b).cs.1.length ≤ b.length + 1
 lo : (tkN v b).os.1.length ≤ b.length + 1
 ok : OkV (fD (tkN v b))
theorem Ep {v : Viw} {b : List Int} (h8 : au b) (hl : b.length ≤ 1000000000) (hv : baseB v = true) : Gs v b:=by
 have n:=n40 h8
 have p1 : (tkN v b).t.2.pos ≤ b.length:=(n.le _ (Nat.zero_le _)).2
 have p2 : (tkN v b).id.2.pos ≤ b.length:=(n.le _ p1).2
 have p3 : (tkN v b).x.2.pos ≤ b.length:=(n.le _ p2).2
 have p4 : (tkN v b).y.2.pos ≤ b.length:=(n.le _ p3).2
 have p5 : (tkN v b).bag.2.pos ≤ b.length:=((lK (rO h8) 8).le _ p4).2
 have p6 : (tkN v b).w.2.pos ≤ b.length:=(n.le _ p5).2
 have p7 : (tkN v b).ag.2.pos ≤ b.length:=(n.le _ p6).2
 have p8 : (tkN v b).off.2.pos ≤ b.length:=by
  show (nj b (tkN v b).w.1 (tkN v b).ag.2).2.pos ≤ _
  unfold nj
  split
  ·exact p7
  ·exact ((lK (rO h8) 8).le _ p7).2
 have p9 : (tkN v b).nc.2.pos ≤ b.length:=(n.le _ p8).2
 have p10 : (tkN v b).cs.2.pos ≤ b.length:=((lK (l7 h8) _).le _ p9).2
 have p11 : (tkN v b).no.2.pos ≤ b.length:=(n.le _ p10).2
 have lc : (tkN v b).cs.1.length ≤ b.length + 1:=by
  have:=nm (l7 h8 (v:=v)) (fun s hs=>An h8 hs) (tkN v b).nc.1.toNat (tkN v b).nc.2 p9
  show (ao (cF b v) (tkN v b).nc.1.toNat (tkN v b).nc.2).1.length ≤ _
  omega
 have lo : (tkN v b).os.1.length ≤ b.length + 1:=by
  have:=nm (Ao h8) (fun s hs=>Cv h8 hs) (tkN v b).no.1.toNat (tkN v b).no.2 p11
  show (ao (ck b) (tkN v b).no.1.toNat (tkN v b).no.2).1.length ≤ _
  omega
 have hs:=kJ (f:=dS b) (p:=bP) (fun s=>D8) 8
 have ho : (tkN v b).off.1.length ≤ 8 ∧ ∀ x ∈ (tkN v b).off.1,bP x:=by
  show (nj b (tkN v b).w.1 (tkN v b).ag.2).1.length ≤ 8 ∧ ∀ x ∈ (nj b (tkN v b).w.1 (tkN v b).ag.2).1,bP x
  unfold nj
  split
  ·exact ⟨by simp,fun x hx=>by cases hx⟩
  ·exact hs _
 have hb : (tkN v b).bag.1.length ≤ 8 ∧ ∀ x ∈ (tkN v b).bag.1,bP x:=hs (tkN v b).y.2
 refine ⟨p1,p2,p3,p4,p5,p6,p7,p8,p9,p10,p11,lc,lo,⟨⟨hb.2,ho.2,?_,?_⟩,?_,?_,?_⟩⟩
 ·show (tkN v b).bag.1.length * 16 ≤ _
  omega
 ·show (tkN v b).off.1.length * 16 ≤ _
  omega
 ·exact (kJ (f:=cF b v) (p:=OkC) (fun s=>Cw h8 hv) (tkN v b).nc.1.toNat (tkN v b).nc.2).2
 ·show (tkN v b).cs.1.length * 88 ≤ _
  omega
 ·show (tkN v b).os.1.length * 24 ≤ _
  omega
open Go Go.RowKit Eng
theorem xA (v : Viw) : nothingB v = true ↔ v.tick = 0 ∧ v.chunks.length + v.others.length = 0 ∧ v.me.id = 0 ∧ v.me.x = 0 ∧ v.me.y = 0 ∧ v.me.wth = 0 ∧ v.me.agrees = false ∧ v.me.bag.length + v.me.offer.length = 0:=by
 unfold nothingB
 rw [bu]
 constructor
 ·rintro rfl;simp [aE]
 ·obtain ⟨t,⟨id,x,y,bag,w,off,ag⟩,cs,os⟩:=v
  dsimp only
  rintro ⟨h1,h2,h3,h4,h5,h6,h7,h8⟩
  have c1 : cs = []:=List.length_eq_zero_iff.1 (by omega)
  have c2 : os = []:=List.length_eq_zero_iff.1 (by omega)
  have c3 : bag = []:=List.length_eq_zero_iff.1 (by omega)
  have c4 : off = []:=List.length_eq_zero_iff.1 (by omega)
  subst h1 c1 c2 c3 c4 h3 h4 h5 h6 h7
  rfl
theorem i7 (v : Viw) (hv : OkV v) : Api Tryz.prog 105 [bk v] (bol (nothingB v)):=by
 have h1:=hv.nc
 have h2:=hv.no
 have h3:=hv.me.nb
 have h4:=hv.me.no
 have hi:=xA v
 have hno : nothingB v = false → ¬ (v.tick = 0 ∧ v.chunks.length + v.others.length = 0 ∧ v.me.id = 0 ∧ v.me.x = 0 ∧ v.me.y = 0 ∧ v.me.wth = 0 ∧ v.me.agrees = false ∧ v.me.bag.length + v.me.offer.length = 0):=fun h h2=>by rw [hi.2 h2] at h;cases h
 cases hB : nothingB v with
 | true =>
  obtain ⟨c1,c2,c3,c4,c5,c6,c7,c9⟩:=hi.1 hB
  clear hi hno hB
  refine aF Tryz.func105 53 ?_
  conv=>whnf
  repeat' (first|exact trivial|((first|(refine ⟨fun hb=>?_,fun hb=>?_⟩<;>(try simp only [nrm] at hb)<;>try exact kZ hb)|refine kV ?_)<;>(conv=>whnf))|refine kY ?_ ?_)
  all_goals first|rfl|(exfalso;omega)|(exact congrArg Value.bool (decide_eq_true (by omega)))|(exfalso;simp_all;done)|trace_state
 | false =>
  have hn:=hno hB
  clear hi hno hB
  refine aF Tryz.func105 53 ?_
  conv=>whnf
  repeat' (first|exact trivial|((first|(refine ⟨fun hb=>?_,fun hb=>?_⟩<;>(try simp only [nrm] at hb)<;>try exact kZ hb)|refine kV ?_)<;>(conv=>whnf))|refine kY ?_ ?_)
  all_goals first|rfl|(exfalso;omega)|(exact congrArg Value.bool (decide_eq_false fun h=>hn ⟨by omega,by omega,by omega,by omega,by omega,by omega,by assumption,by omega⟩))|(exact congrArg Value.bool (decide_eq_false fun h=>hn ⟨by omega,by omega,by omega,by omega,by omega,by omega,by simpa using ‹¬ v.me.agrees = true›,by omega⟩))|trace_state
theorem pI (v : Viw) (x y : Int) (hn : v.chunks.length ≤ 2000000000000) (R : Chunk × Bool) (hR : aA v x y = R) : Api Tryz.prog 107 [bk v,i64 x,i64 y] (.tup [bz R.1,bol R.2]):=by
 have w1 : am (cQ x y) v.chunks 0 < 0 → R = (bf,false):=fun h=>by rw [← hR];exact if_pos h
 have w2 : ∀ k : Nat,am (cQ x y) v.chunks 0 = k → R = (elt .chunk v.chunks k,true):=fun k h=>by
  rw [← hR]
  unfold aA
  rw [h,if_neg (by omega)]
  rfl
 clear hR
 refine aF Tryz.func107 37 ?_
 ((repeat (first|(with_reducible refine af fun N hN hE hT=>?_)|(with_reducible refine ah fun N hN hE hT=>?_)));(try with_reducible refine ai fun X Y hX hY=>?_);(conv=>whnf))
 repeat' (first|exact trivial|((first|((first|apply hT|apply hE|apply hN);clear hN hE hT)|((first|refine hX ?_|refine hY ?_);clear hX hY)|(refine ⟨fun hb=>?_,fun hb=>?_⟩<;>(try simp only [nrm] at hb)<;>try exact kZ hb)|refine kV ?_)<;>((repeat (first|(with_reducible refine af fun N hN hE hT=>?_)|(with_reducible refine ah fun N hN hE hT=>?_)));(try with_reducible refine ai fun X Y hX hY=>?_);(conv=>whnf)))|refine kY ?_ ?_)
 refine aw.loopS aa (σ:=Nat) [1,2,3,6,8] (fun k=>[i64 x,i64 y,.ptr 6 0,.ptr 12 0,i64 k]) (fun _=>[(6,.box (bA v)),(12,.box (bj bf))]) (fun k=>k ≤ v.chunks.length ∧ am (cQ x y) (v.chunks.drop k) k = am (cQ x y) v.chunks 0) (fun k=>v.chunks.length - k) 0 ⟨by omega,rfl⟩ ?_ ?_
 ·conv=>whnf
  repeat' (first|exact trivial|((first|((first|apply hT|apply hE|apply hN);clear hN hE hT)|((first|refine hX ?_|refine hY ?_);clear hX hY)|(refine ⟨fun hb=>?_,fun hb=>?_⟩<;>(try simp only [nrm] at hb)<;>try exact kZ hb)|refine kV ?_)<;>((repeat (first|(with_reducible refine af fun N hN hE hT=>?_)|(with_reducible refine ah fun N hN hE hT=>?_)));(try with_reducible refine ai fun X Y hX hY=>?_);(conv=>whnf)))|refine kY ?_ ?_)
  all_goals first|rfl|trace_state
 ·rintro k ⟨hk,he⟩
  by_cases hlt : k < v.chunks.length
  ·rw [bJ (t:=.chunk) hlt] at he
   simp only [am] at he
   have q0 : (elt .chunk v.chunks (k : Int).toNat).x = (elt .chunk v.chunks k).x:=rfl
   have q1 : (elt .chunk v.chunks (k : Int).toNat).y = (elt .chunk v.chunks k).y:=rfl
   have hP : cQ x y (elt .chunk v.chunks k) = true ↔ (elt .chunk v.chunks k).x = x ∧ (elt .chunk v.chunks k).y = y:=by unfold cQ;simp
   by_cases hh : (elt .chunk v.chunks k).x = x ∧ (elt .chunk v.chunks k).y = y
   ·rw [if_pos (hP.2 hh)] at he
    have hRv:=w2 k he.symm
    obtain ⟨hh1,hh2⟩:=hh
    clear hP
    conv=>whnf
    repeat' (first|exact trivial|((first|((first|apply hT|apply hE|apply hN);clear hN hE hT)|((first|refine hX ?_|refine hY ?_);clear hX hY)|(refine ⟨fun hb=>?_,fun hb=>?_⟩<;>(try simp only [nrm] at hb)<;>try exact kZ hb)|refine kV ?_)<;>((repeat (first|(with_reducible refine af fun N hN hE hT=>?_)|(with_reducible refine ah fun N hN hE hT=>?_)));(try with_reducible refine ai fun X Y hX hY=>?_);(conv=>whnf)))|refine kY ?_ ?_)
    all_goals first|(exfalso;omega)|(rw [hRv];done)|(rw [hRv];rfl)|trace_state
   ·rw [if_neg fun h=>hh (hP.1 h)] at he
    have hh1 : (elt .chunk v.chunks k).x = x → ¬ (elt .chunk v.chunks k).y = y:=fun h1 h2=>hh ⟨h1,h2⟩
    clear hP hh
    conv=>whnf
    repeat' (first|exact trivial|((first|((first|apply hT|apply hE|apply hN);clear hN hE hT)|((first|refine hX ?_|refine hY ?_);clear hX hY)|(refine ⟨fun hb=>?_,fun hb=>?_⟩<;>(try simp only [nrm] at hb)<;>try exact kZ hb)|refine kV ?_)<;>((repeat (first|(with_reducible refine af fun N hN hE hT=>?_)|(with_reducible refine ah fun N hN hE hT=>?_)));(try with_reducible refine ai fun X Y hX hY=>?_);(conv=>whnf)))|refine kY ?_ ?_)
    all_goals first|(exact absurd (by omega) (hh1 (by omega)))|skip
    all_goals
     refine .to (k + 1) ⟨hlt,he⟩ (by omega) ?_
     conv=>whnf
     repeat' (first|exact trivial|((first|((first|apply hT|apply hE|apply hN);clear hN hE hT)|((first|refine hX ?_|refine hY ?_);clear hX hY)|(refine ⟨fun hb=>?_,fun hb=>?_⟩<;>(try simp only [nrm] at hb)<;>try exact kZ hb)|refine kV ?_)<;>((repeat (first|(with_reducible refine af fun N hN hE hT=>?_)|(with_reducible refine ah fun N hN hE hT=>?_)));(try with_reducible refine ai fun X Y hX hY=>?_);(conv=>whnf)))|refine kY ?_ ?_)
    all_goals first|rfl|trace_state
  ·rw [List.drop_of_length_le (by omega)] at he
   have hRv:=w1 (by rw [← he];simp [am])
   conv=>whnf
   repeat' (first|exact trivial|((first|((first|apply hT|apply hE|apply hN);clear hN hE hT)|((first|refine hX ?_|refine hY ?_);clear hX hY)|(refine ⟨fun hb=>?_,fun hb=>?_⟩<;>(try simp only [nrm] at hb)<;>try exact kZ hb)|refine kV ?_)<;>((repeat (first|(with_reducible refine af fun N hN hE hT=>?_)|(with_reducible refine ah fun N hN hE hT=>?_)));(try with_reducible refine ai fun X Y hX hY=>?_);(conv=>whnf)))|refine kY ?_ ?_)
   all_goals first|(rw [hRv];done)|(rw [hRv];rfl)|trace_state
theorem jh (c : Chunk) (hc : OkC c) : Api Tryz.prog 109 [bz c] (.lit (.string (strOfNums (cB c)))):=by
 have h1:=ny c hc
 unfold cB
 refine aF Tryz.func109 11 ?_
 ((repeat (first|(with_reducible refine af fun N hN hE hT=>?_)|(with_reducible refine ah fun N hN hE hT=>?_)));(try with_reducible refine ai fun X Y hX hY=>?_);(conv=>whnf))
 repeat' (first|exact trivial|((first|((first|apply hT|apply hE|apply hN);clear hN hE hT)|((first|refine hX ?_|refine hY ?_);clear hX hY)|(refine ⟨fun hb=>?_,fun hb=>?_⟩<;>(try simp only [nrm] at hb)<;>try exact kZ hb)|refine kV ?_)<;>((repeat (first|(with_reducible refine af fun N hN hE hT=>?_)|(with_reducible refine ah fun N hN hE hT=>?_)));(try with_reducible refine ai fun X Y hX hY=>?_);(conv=>whnf)))|refine kY ?_ ?_)
 all_goals first|rfl|trace_state
theorem Er {P : Program} {fid : FuncId} {c : Chunk} {v : AV} (h : Api P fid [bz c] v) (hv : i_ v = true) {a b d : Nat} (ha : a = c.cells.length) (hb : b = c.heaps.length) (hd : d = c.boxes.length) :
  Ev1 P fid [.agg [i64 c.x,i64 c.y,.own .u8 1 0 a none,.own .heap 3 0 b none,.own .box 5 0 d none]] [(1,.row .u8 c.cells),(3,.row .heap c.heaps),(5,.row .box c.boxes)] v [(1,.row .u8 c.cells),(3,.row .heap c.heaps),(5,.row .box c.boxes)]:=by
 subst ha hb hd
 refine Api.lend h ?_ hv
 conv=>whnf
 refine ⟨by omega,?_⟩
 conv=>whnf
 refine ⟨by omega,?_⟩
 conv=>whnf
 refine ⟨by omega,?_⟩
 rw [List.drop_zero,List.take_length,List.drop_zero,List.take_length,List.drop_zero,List.take_length]
 rfl
theorem wL {a b : Chunk} (ha : OkC a) (hb : OkC b) : OkC (gG a b):=⟨ha.cells,hb.heaps,hb.boxes,ha.nc,hb.nh,hb.nb⟩
theorem nq (c : Chunk) : au (cB c):=by
 unfold cB
 split
 ·rename_i h;exact oC h
 ·intro i hi;cases hi
theorem tW (a b : Chunk) (ha : OkC a) (fa : mS a) (hc : OkC b) (fb : mS b) (hl : dC a b = true → a.cells.length ≤ b.cells.length ∧ a.cells.length ≤ 1000) (R : List (El .i64)) (hR : dg a b = R) : Api Tryz.prog 108 [bz a,bz b] (.vec .i64 R):=by
 have hcp:=kK b fb
 have hrt:=Er (f9 _ (wL ha hc)) rfl (a:=0 + a.cells.length) (b:=b.heaps.length) (d:=b.boxes.length) (Nat.zero_add _) rfl rfl
 have htx:=Er (jh _ (wL ha hc)) rfl (a:=0 + a.cells.length) (b:=b.heaps.length) (d:=b.boxes.length) (Nat.zero_add _) rfl rfl
 have hta:=jh a ha
 have f1:=fa.cells
 have hkd : dC a b = (ar (gG a b) && eqL (aK (gG a b)) (cB a)):=rfl
 have hts : ar (gG a b) = true → cB (gG a b) = aK (gG a b):=fun h=>if_pos h
 have hse:=iU (nq (gG a b)) (nq a)
 have w1 : dC a b = false → R = []:=fun h=>by rw [← hR];exact if_neg (by rw [h];simp)
 have w2 : dC a b = true → R = co a.cells b.cells a.cells.length:=fun h=>by rw [← hR];exact if_pos h
 clear hR
 change Ev1 _ _ [.agg [i64 b.x,i64 b.y,.own .u8 1 0 (0 + a.cells.length) none,.own .heap 3 0 b.heaps.length none,.own .box 5 0 b.boxes.length none]] [(1,.row .u8 a.cells),(3,.row .heap b.heaps),(5,.row .box b.boxes)] _ [(1,.row .u8 a.cells),(3,.row .heap b.heaps),(5,.row .box b.boxes)] at hrt htx
 generalize dC a b = kp at *
 cases hr : ar (gG a b) with
 | false =>
  rw [hr,Bool.false_and] at hkd
  have hRv:=w1 hkd
  rw [hr] at hrt
  clear w1 w2 hse hts htx hta
  refine aF Tryz.func108 46 ?_
  ((repeat (first|(with_reducible refine af fun N hN hE hT=>?_)|(with_reducible refine ah fun N hN hE hT=>?_)));(try with_reducible refine ai fun X Y hX hY=>?_);(conv=>whnf))
  repeat' (first|exact trivial|((first|((first|apply hT|apply hE|apply hN);clear hN hE hT)|((first|refine hX ?_|refine hY ?_);clear hX hY)|refine kL ?_|(refine ⟨fun hb=>?_,fun hb=>?_⟩<;>(try simp only [nrm] at hb)<;>try exact kZ hb)|refine kE hcp [(390001,150001),(390003,150003),(390005,150005)] rfl ?_|refine kF hcp [(390001,150001),(390003,150003),(390005,150005)] rfl ?_|refine kE hrt [(1,27),(3,150003),(5,150005)] rfl ?_|refine kF hrt [(1,27),(3,150003),(5,150005)] rfl ?_|refine kV ?_)<;>((repeat (first|(with_reducible refine af fun N hN hE hT=>?_)|(with_reducible refine ah fun N hN hE hT=>?_)));(try with_reducible refine ai fun X Y hX hY=>?_);(conv=>whnf)))|refine kY ?_ ?_)
  all_goals first|(rw [hRv];done)|(rw [hRv];rfl)|trace_state
 | true =>
  rw [hr,Bool.true_and] at hkd
  rw [hr] at hrt
  rw [hts hr] at htx hse
  rw [← hkd] at hse
  clear hts hkd
  generalize strOfNums (aK (gG a b)) = S1 at *
  generalize strOfNums (cB a) = S2 at *
  cases kp with
  | false =>
   have hRv:=w1 rfl
   have hs2 : ¬ (S1.toList == S2.toList) = true:=by rw [hse];simp
   clear w1 w2
   refine aF Tryz.func108 46 ?_
   ((repeat (first|(with_reducible refine af fun N hN hE hT=>?_)|(with_reducible refine ah fun N hN hE hT=>?_)));(try with_reducible refine ai fun X Y hX hY=>?_);(conv=>whnf))
   repeat' (first|exact trivial|((first|((first|apply hT|apply hE|apply hN);clear hN hE hT)|((first|refine hX ?_|refine hY ?_);clear hX hY)|refine kL ?_|(refine ⟨fun hb=>?_,fun hb=>?_⟩<;>(try simp only [nrm] at hb)<;>try exact kZ hb)|refine kE hcp [(390001,150001),(390003,150003),(390005,150005)] rfl ?_|refine kF hcp [(390001,150001),(390003,150003),(390005,150005)] rfl ?_|refine kE hrt [(1,27),(3,150003),(5,150005)] rfl ?_|refine kF hrt [(1,27),(3,150003),(5,150005)] rfl ?_|refine kE htx [(1,27),(3,150003),(5,150005)] rfl ?_|refine kF htx [(1,27),(3,150003),(5,150005)] rfl ?_|(rw [hse])|refine kV ?_)<;>((repeat (first|(with_reducible refine af fun N hN hE hT=>?_)|(with_reducible refine ah fun N hN hE hT=>?_)));(try with_reducible refine ai fun X Y hX hY=>?_);(conv=>whnf)))|refine kY ?_ ?_)
   all_goals first|(rw [hRv];done)|(rw [hRv];rfl)|trace_state
  | true =>
   have hRv:=w2 rfl
   obtain ⟨l1,l2⟩:=hl rfl
   clear w1 w2
   refine aF Tryz.func108 46 ?_
   ((repeat (first|(with_reducible refine af fun N hN hE hT=>?_)|(with_reducible refine ah fun N hN hE hT=>?_)));(try with_reducible refine ai fun X Y hX hY=>?_);(conv=>whnf))
   repeat' (first|exact trivial|((first|((first|apply hT|apply hE|apply hN);clear hN hE hT)|((first|refine hX ?_|refine hY ?_);clear hX hY)|refine kL ?_|(refine ⟨fun hb=>?_,fun hb=>?_⟩<;>(try simp only [nrm] at hb)<;>try exact kZ hb)|refine kE hcp [(390001,150001),(390003,150003),(390005,150005)] rfl ?_|refine kF hcp [(390001,150001),(390003,150003),(390005,150005)] rfl ?_|refine kE hrt [(1,27),(3,150003),(5,150005)] rfl ?_|refine kF hrt [(1,27),(3,150003),(5,150005)] rfl ?_|refine kE htx [(1,27),(3,150003),(5,150005)] rfl ?_|refine kF htx [(1,27),(3,150003),(5,150005)] rfl ?_|(rw [hse])|refine kV ?_)<;>((repeat (first|(with_reducible refine af fun N hN hE hT=>?_)|(with_reducible refine ah fun N hN hE hT=>?_)));(try with_reducible refine ai fun X Y hX hY=>?_);(conv=>whnf)))|refine kY ?_ ?_)
   refine aw.loopS aa (σ:=Nat) [2,3,6,7] (fun k=>[.ptr 4 0,.ptr 6 0,.own .i64 93 0 (co a.cells b.cells k).length none,i64 k]) (fun k=>[(4,.box (bj a)),(6,.box (bj b)),(93,.row .i64 (co a.cells b.cells k))])
    (fun k=>k ≤ a.cells.length) (fun k=>a.cells.length - k) 0 (by omega) ?_ ?_
   ·conv=>whnf
    repeat' (first|exact trivial|((first|((first|apply hT|apply hE|apply hN);clear hN hE hT)|((first|refine hX ?_|refine hY ?_);clear hX hY)|(refine ⟨fun hb=>?_,fun hb=>?_⟩<;>(try simp only [nrm] at hb)<;>try exact kZ hb)|refine kV ?_)<;>((repeat (first|(with_reducible refine af fun N hN hE hT=>?_)|(with_reducible refine ah fun N hN hE hT=>?_)));(try with_reducible refine ai fun X Y hX hY=>?_);(conv=>whnf)))|refine kY ?_ ?_)
    all_goals first|rfl|trace_state
   ·intro k hk
    by_cases hlt : k < a.cells.length
    ·have hnx:=rA (a:=a.cells) (b:=b.cells) (k:=k)
     have hln:=lD (a:=a.cells) (b:=b.cells) (k:=k)
     by_cases he : @Eq Int (elt .u8 a.cells (k : Int).toNat) (elt .u8 b.cells (k : Int).toNat)
     ·rw [if_neg (show ¬ gF a.cells b.cells k = true by unfold gF;rw [decide_eq_true_eq];exact not_not_intro he)] at hnx
      conv=>whnf
      repeat' (first|exact trivial|((first|((first|apply hT|apply hE|apply hN);clear hN hE hT)|((first|refine hX ?_|refine hY ?_);clear hX hY)|(refine ⟨fun hb=>?_,fun hb=>?_⟩<;>(try simp only [nrm] at hb)<;>try exact kZ hb)|refine kV ?_)<;>((repeat (first|(with_reducible refine af fun N hN hE hT=>?_)|(with_reducible refine ah fun N hN hE hT=>?_)));(try with_reducible refine ai fun X Y hX hY=>?_);(conv=>whnf)))|refine kY ?_ ?_)
      all_goals
       refine .to (k + 1) hlt (by omega) ?_
       conv=>whnf
       repeat' (first|exact trivial|((first|((first|apply hT|apply hE|apply hN);clear hN hE hT)|((first|refine hX ?_|refine hY ?_);clear hX hY)|(refine ⟨fun hb=>?_,fun hb=>?_⟩<;>(try simp only [nrm] at hb)<;>try exact kZ hb)|refine kV ?_)<;>((repeat (first|(with_reducible refine af fun N hN hE hT=>?_)|(with_reducible refine ah fun N hN hE hT=>?_)));(try with_reducible refine ai fun X Y hX hY=>?_);(conv=>whnf)))|refine kY ?_ ?_)
      all_goals (try rw [hnx])
      all_goals first|rfl|exact List.take_length|exact List.length_append.symm|exact lF (t:=.i64) (e:=sy k)|trace_state
     ·rw [if_pos (show gF a.cells b.cells k = true by unfold gF;rw [decide_eq_true_eq];exact he)] at hnx
      conv=>whnf
      repeat' (first|exact trivial|((first|((first|apply hT|apply hE|apply hN);clear hN hE hT)|((first|refine hX ?_|refine hY ?_);clear hX hY)|(refine ⟨fun hb=>?_,fun hb=>?_⟩<;>(try simp only [nrm] at hb)<;>try exact kZ hb)|refine kV ?_)<;>((repeat (first|(with_reducible refine af fun N hN hE hT=>?_)|(with_reducible refine ah fun N hN hE hT=>?_)));(try with_reducible refine ai fun X Y hX hY=>?_);(conv=>whnf)))|refine kY ?_ ?_)
      all_goals
       refine .to (k + 1) hlt (by omega) ?_
       conv=>whnf
       repeat' (first|exact trivial|((first|((first|apply hT|apply hE|apply hN);clear hN hE hT)|((first|refine hX ?_|refine hY ?_);clear hX hY)|(refine ⟨fun hb=>?_,fun hb=>?_⟩<;>(try simp only [nrm] at hb)<;>try exact kZ hb)|refine kV ?_)<;>((repeat (first|(with_reducible refine af fun N hN hE hT=>?_)|(with_reducible refine ah fun N hN hE hT=>?_)));(try with_reducible refine ai fun X Y hX hY=>?_);(conv=>whnf)))|refine kY ?_ ?_)
      all_goals (try rw [hnx])
      all_goals first|rfl|exact List.take_length|exact List.length_append.symm|exact lF (t:=.i64) (e:=sy k)|trace_state
    ·obtain rfl : k = a.cells.length:=by omega
     conv=>whnf
     repeat' (first|exact trivial|((first|((first|apply hT|apply hE|apply hN);clear hN hE hT)|((first|refine hX ?_|refine hY ?_);clear hX hY)|(refine ⟨fun hb=>?_,fun hb=>?_⟩<;>(try simp only [nrm] at hb)<;>try exact kZ hb)|refine kV ?_)<;>((repeat (first|(with_reducible refine af fun N hN hE hT=>?_)|(with_reducible refine ah fun N hN hE hT=>?_)));(try with_reducible refine ai fun X Y hX hY=>?_);(conv=>whnf)))|refine kY ?_ ?_)
     all_goals first|(rw [hRv];done)|(rw [hRv];exact List.take_length)|(rw [hRv];rfl)|trace_state
theorem ge (a : List (El .u8)) (ns : List (El .i64)) (n m : Nat) (c : Option Nat) (hn : n = a.length) (hm : m = ns.length) (hns : ∀ z ∈ ns,okN z) (hl : a.length + ns.length * 10 ≤ 10000000000) : Ev1 Tryz.prog 106 [.own .u8 1 0 n none,.own .i64 3 0 m c] [(1,.row .u8 a),(3,.row .i64 ns)] (.own .u8 390001 0 (n + (an ns).length) none) [(390001,.row .u8 (a ++ an ns))]:=by
 subst hn hm
 refine eF Tryz.func106 18 ?_
 ((repeat (first|(with_reducible refine af fun N hN hE hT=>?_)|(with_reducible refine ah fun N hN hE hT=>?_)));(try with_reducible refine ai fun X Y hX hY=>?_);(conv=>whnf))
 repeat' (first|exact trivial|((first|((first|apply hT|apply hE|apply hN);clear hN hE hT)|((first|refine hX ?_|refine hY ?_);clear hX hY)|(refine ⟨fun hb=>?_,fun hb=>?_⟩<;>(try simp only [nrm] at hb)<;>try exact kZ hb)|refine kV ?_)<;>((repeat (first|(with_reducible refine af fun N hN hE hT=>?_)|(with_reducible refine ah fun N hN hE hT=>?_)));(try with_reducible refine ai fun X Y hX hY=>?_);(conv=>whnf)))|refine kY ?_ ?_)
 refine aw.loopS aa (σ:=Nat × List Int) [0,1,5] (fun (k,V)=>[.own .u8 350101 0 V.length none,.own .i64 3 0 ns.length none,i64 k]) (fun (_,V)=>[(350101,.row .u8 V),(3,.row .i64 ns)]) (fun (k,V)=>k ≤ ns.length ∧ V = a ++ an (ns.take k) ∧ V.length ≤ a.length + k * 10) (fun (k,_)=>ns.length - k) (0,a) ⟨by omega,by simp [an],by omega⟩ ?_ ?_
 ·conv=>whnf
  repeat' (first|exact trivial|((first|((first|apply hT|apply hE|apply hN);clear hN hE hT)|((first|refine hX ?_|refine hY ?_);clear hX hY)|(refine ⟨fun hb=>?_,fun hb=>?_⟩<;>(try simp only [nrm] at hb)<;>try exact kZ hb)|refine kV ?_)<;>((repeat (first|(with_reducible refine af fun N hN hE hT=>?_)|(with_reducible refine ah fun N hN hE hT=>?_)));(try with_reducible refine ai fun X Y hX hY=>?_);(conv=>whnf)))|refine kY ?_ ?_)
  all_goals first|rfl|(simp;done)|exact List.take_length|trace_state
 ·rintro ⟨k,V⟩ ⟨hk,hV,hVl⟩
  try dsimp only at hk hV hVl
  by_cases hlt : k < ns.length
  ·obtain ⟨E,hE0⟩ : ∃ E : Int,elt .i64 ns ((k : Int).toNat + 0) = E:=⟨_,rfl⟩
   have hE2 : elt .i64 ns k = E:=hE0
   have hok:=hns _ (ay (t:=.i64) hlt)
   rw [hE2] at hok
   unfold okN at hok
   have l1:=dn E.toNat
   have u1:=di V _ E rfl (by omega) (by omega) (by omega)
   have hT2 : V ++ aj E.toNat = a ++ an (ns.take (k + 1)):=by
    have h1:=cf (t:=.i64) (fun z : El .i64=>aj (Int.toNat z)) hlt
    rw [hE2] at h1
    rw [hV,List.append_assoc]
    exact congrArg (a ++ ·) h1.symm
   have hT3 : (V ++ aj E.toNat).length ≤ a.length + (k + 1) * 10:=by rw [List.length_append];omega
   conv=>whnf
   repeat' (first|exact trivial|((first|((first|apply hT|apply hE|apply hN);clear hN hE hT)|((first|refine hX ?_|refine hY ?_);clear hX hY)|refine kL ?_|(refine ⟨fun hb=>?_,fun hb=>?_⟩<;>(try simp only [nrm] at hb)<;>try exact kZ hb)|refine kE u1 [(1,350101),(390001,350103)] rfl ?_|refine kF u1 [(1,350101),(390001,350103)] rfl ?_|(rw [hE0])|refine kV ?_)<;>((repeat (first|(with_reducible refine af fun N hN hE hT=>?_)|(with_reducible refine ah fun N hN hE hT=>?_)));(try with_reducible refine ai fun X Y hX hY=>?_);(conv=>whnf)))|refine kY ?_ ?_)
   refine .to (k + 1,_) ⟨hlt,hT2,hT3⟩ (by first|omega|(dsimp only;omega)) ?_
   conv=>whnf
   repeat' (first|exact trivial|((first|((first|apply hT|apply hE|apply hN);clear hN hE hT)|((first|refine hX ?_|refine hY ?_);clear hX hY)|(refine ⟨fun hb=>?_,fun hb=>?_⟩<;>(try simp only [nrm] at hb)<;>try exact kZ hb)|refine kV ?_)<;>((repeat (first|(with_reducible refine af fun N hN hE hT=>?_)|(with_reducible refine ah fun N hN hE hT=>?_)));(try with_reducible refine ai fun X Y hX hY=>?_);(conv=>whnf)))|refine kY ?_ ?_)
   all_goals first|rfl|(simp only [List.length_append];done)|(simp only [List.length_append,List.take_length];done)|(refine List.take_of_length_le ?_;simp only [List.length_append];omega)|trace_state
  ·obtain rfl : k = ns.length:=by omega
   rw [List.take_length] at hV
   subst hV
   conv=>whnf
   repeat' (first|exact trivial|((first|((first|apply hT|apply hE|apply hN);clear hN hE hT)|((first|refine hX ?_|refine hY ?_);clear hX hY)|(refine ⟨fun hb=>?_,fun hb=>?_⟩<;>(try simp only [nrm] at hb)<;>try exact kZ hb)|refine kV ?_)<;>((repeat (first|(with_reducible refine af fun N hN hE hT=>?_)|(with_reducible refine ah fun N hN hE hT=>?_)));(try with_reducible refine ai fun X Y hX hY=>?_);(conv=>whnf)))|refine kY ?_ ?_)
   all_goals first|rfl|(simp only [List.length_append];done)|exact List.take_length|(refine List.take_of_length_le ?_;simp only [List.length_append];omega)|trace_state
theorem Ap (ns : List (El .i64)) (m : Nat) (c : Option Nat) (hm : m = ns.length) (hns : ∀ z ∈ ns,okN z) (hl : ns.length * 10 ≤ 10000000000) : Ev1 Tryz.prog 106 [.lit (.slice none 0 0),.own .i64 3 0 m c] [(3,.row .i64 ns)] (.own .u8 390001 0 (an ns).length none) [(390001,.row .u8 (an ns))]:=by
 subst hm
 refine eF Tryz.func106 18 ?_
 ((repeat (first|(with_reducible refine af fun N hN hE hT=>?_)|(with_reducible refine ah fun N hN hE hT=>?_)));(try with_reducible refine ai fun X Y hX hY=>?_);(conv=>whnf))
 repeat' (first|exact trivial|((first|((first|apply hT|apply hE|apply hN);clear hN hE hT)|((first|refine hX ?_|refine hY ?_);clear hX hY)|(refine ⟨fun hb=>?_,fun hb=>?_⟩<;>(try simp only [nrm] at hb)<;>try exact kZ hb)|refine kV ?_)<;>((repeat (first|(with_reducible refine af fun N hN hE hT=>?_)|(with_reducible refine ah fun N hN hE hT=>?_)));(try with_reducible refine ai fun X Y hX hY=>?_);(conv=>whnf)))|refine kY ?_ ?_)
 refine aw.loopS aa (σ:=Nat × List Int) [0,1,5] (fun (k,V)=>[.own .u8 350101 0 V.length none,.own .i64 3 0 ns.length none,i64 k]) (fun (_,V)=>[(350101,.row .u8 V),(3,.row .i64 ns)]) (fun (k,V)=>k ≤ ns.length ∧ V = an (ns.take k) ∧ V.length ≤ k * 10) (fun (k,_)=>ns.length - k) (0,[]) ⟨by omega,by simp [an],by simp⟩ ?_ ?_
 ·conv=>whnf
  repeat' (first|exact trivial|((first|((first|apply hT|apply hE|apply hN);clear hN hE hT)|((first|refine hX ?_|refine hY ?_);clear hX hY)|(refine ⟨fun hb=>?_,fun hb=>?_⟩<;>(try simp only [nrm] at hb)<;>try exact kZ hb)|refine kV ?_)<;>((repeat (first|(with_reducible refine af fun N hN hE hT=>?_)|(with_reducible refine ah fun N hN hE hT=>?_)));(try with_reducible refine ai fun X Y hX hY=>?_);(conv=>whnf)))|refine kY ?_ ?_)
  all_goals first|rfl|(simp;done)|exact List.take_length|trace_state
 ·rintro ⟨k,V⟩ ⟨hk,hV,hVl⟩
  try dsimp only at hk hV hVl
  by_cases hlt : k < ns.length
  ·obtain ⟨E,hE0⟩ : ∃ E : Int,elt .i64 ns ((k : Int).toNat + 0) = E:=⟨_,rfl⟩
   have hE2 : elt .i64 ns k = E:=hE0
   have hok:=hns _ (ay (t:=.i64) hlt)
   rw [hE2] at hok
   unfold okN at hok
   have l1:=dn E.toNat
   have u1:=di V _ E rfl (by omega) (by omega) (by omega)
   have hT2 : V ++ aj E.toNat = an (ns.take (k + 1)):=by
    have h1:=cf (t:=.i64) (fun z : El .i64=>aj (Int.toNat z)) hlt
    rw [hE2] at h1
    rw [hV]
    exact h1.symm
   have hT3 : (V ++ aj E.toNat).length ≤ (k + 1) * 10:=by rw [List.length_append];omega
   conv=>whnf
   repeat' (first|exact trivial|((first|((first|apply hT|apply hE|apply hN);clear hN hE hT)|((first|refine hX ?_|refine hY ?_);clear hX hY)|refine kL ?_|(refine ⟨fun hb=>?_,fun hb=>?_⟩<;>(try simp only [nrm] at hb)<;>try exact kZ hb)|refine kE u1 [(1,350101),(390001,350103)] rfl ?_|refine kF u1 [(1,350101),(390001,350103)] rfl ?_|(rw [hE0])|refine kV ?_)<;>((repeat (first|(with_reducible refine af fun N hN hE hT=>?_)|(with_reducible refine ah fun N hN hE hT=>?_)));(try with_reducible refine ai fun X Y hX hY=>?_);(conv=>whnf)))|refine kY ?_ ?_)
   refine .to (k + 1,_) ⟨hlt,hT2,hT3⟩ (by first|omega|(dsimp only;omega)) ?_
   conv=>whnf
   repeat' (first|exact trivial|((first|((first|apply hT|apply hE|apply hN);clear hN hE hT)|((first|refine hX ?_|refine hY ?_);clear hX hY)|(refine ⟨fun hb=>?_,fun hb=>?_⟩<;>(try simp only [nrm] at hb)<;>try exact kZ hb)|refine kV ?_)<;>((repeat (first|(with_reducible refine af fun N hN hE hT=>?_)|(with_reducible refine ah fun N hN hE hT=>?_)));(try with_reducible refine ai fun X Y hX hY=>?_);(conv=>whnf)))|refine kY ?_ ?_)
   all_goals first|rfl|(simp only [List.length_append];done)|(simp only [List.length_append,List.take_length];done)|(refine List.take_of_length_le ?_;simp only [List.length_append];omega)|trace_state
  ·obtain rfl : k = ns.length:=by omega
   rw [List.take_length] at hV
   subst hV
   conv=>whnf
   repeat' (first|exact trivial|((first|((first|apply hT|apply hE|apply hN);clear hN hE hT)|((first|refine hX ?_|refine hY ?_);clear hX hY)|(refine ⟨fun hb=>?_,fun hb=>?_⟩<;>(try simp only [nrm] at hb)<;>try exact kZ hb)|refine kV ?_)<;>((repeat (first|(with_reducible refine af fun N hN hE hT=>?_)|(with_reducible refine ah fun N hN hE hT=>?_)));(try with_reducible refine ai fun X Y hX hY=>?_);(conv=>whnf)))|refine kY ?_ ?_)
   all_goals first|rfl|(simp only [List.length_append];done)|exact List.take_length|(refine List.take_of_length_le ?_;simp only [List.length_append];omega)|trace_state
end Go.Proofs.YtaecchphjploaaaGreat
