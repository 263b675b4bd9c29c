/- Deltas upon their own views, plain; homesteadlaw20.small, awake. -/
import Derived.Test.YtaecchphjploaaaGreatGp
import Derived.Test.YtaecchphjploaaaGreatGi
import Derived.Test.YtaecchphjploaaaGreatGl
set_option linter.unusedSimpArgs false
set_option linter.unusedVariables false
set_option maxRecDepth 100000
set_option maxHeartbeats 16000000
namespace Go.Proofs.YtaecchphjploaaaGreat
open Go Go.RowKit Eng
def oe (c : Chunk) : Int:=16 * c.y + c.x
theorem tq {v : Viw} (h : aV v = true) {i : Nat} (hi : i + 1 < v.chunks.length) : oe (elt .chunk v.chunks i) < oe (elt .chunk v.chunks (i + 1)):=by
 have hP:=dN h
 have g1:=(bD (hP.chunks _ (ay (t:=.chunk) (l:=v.chunks) (i:=i) (by omega)))).at
 have g2:=(bD (hP.chunks _ (ay (t:=.chunk) (l:=v.chunks) (i:=i + 1) hi))).at
 unfold aV at h
 rw [Bool.and_eq_true,Bool.and_eq_true] at h
 have h2:=List.all_eq_true.1 h.1.2 (i + 1) (List.mem_range.2 hi)
 unfold fM at h2
 simp only [Bool.and_eq_true,Bool.or_eq_true,decide_eq_true_eq] at h2
 rcases h2.2 with h3|h3
 ·omega
 ·rw [show i + 1 - 1 = i by omega] at h3
  unfold bO jE cW at h3
  unfold oe
  (repeat' split at h3)<;>omega
theorem sw {v : Viw} (h : aV v = true) {i : Nat} : ∀ d,i + d + 1 < v.chunks.length → oe (elt .chunk v.chunks i) < oe (elt .chunk v.chunks (i + d + 1))
 | 0,hd=>tq h hd
 | d + 1,hd=>by
  have h1:=sw h (i:=i) d (by omega)
  have h2:=tq h (i:=i + d + 1) hd
  rw [show i + (d + 1) + 1 = i + d + 1 + 1 by omega]
  omega
theorem Fc {v : Viw} (h : aV v = true) {a c : Chunk} (ha : a ∈ v.chunks) (hc : c ∈ v.chunks) (hx : a.x = c.x) (hy : a.y = c.y) : a = c:=by
 obtain ⟨i,hi,rfl⟩:=List.getElem_of_mem ha
 obtain ⟨j,hj,rfl⟩:=List.getElem_of_mem hc
 have e : ∀ k (hk : k < v.chunks.length),elt .chunk v.chunks k = v.chunks[k]:=fun k hk=>by
  have:=aL .chunk v.chunks k hk
  rw [List.getElem?_eq_getElem hk] at this
  exact (Option.some.inj this).symm
 have hk : oe v.chunks[i] = oe v.chunks[j]:=by unfold oe;rw [hx,hy]
 rw [← e i hi,← e j hj] at hk
 have : i = j:=by
  rcases Nat.lt_trichotomy i j with h1|h1|h1
  ·have:=sw h (i:=i) (j - i - 1) (by omega)
   rw [show i + (j - i - 1) + 1 = j by omega] at this
   omega
  ·exact h1
  ·have:=sw h (i:=j) (i - j - 1) (by omega)
   rw [show j + (i - j - 1) + 1 = i by omega] at this
   omega
 subst this;rfl
theorem BZ {v : Viw} (h : aV v = true) {c : Chunk} (hc : c ∈ v.chunks) : aA v c.x c.y = (c,true):=by
 have h1 : (aA v c.x c.y).2 = true:=by
  rw [Ca,List.any_eq_true]
  exact ⟨c,hc,by simp [cQ]⟩
 obtain ⟨h2,h3,h4⟩:=gi h1
 exact Prod.ext (Fc h h2 hc h3 h4) h1
theorem B0 (a : List (El .u8)) (n : Nat) : co a a n = []:=by
 unfold co
 rw [List.map_eq_nil_iff,List.filter_eq_nil_iff]
 intro k _
 simp [gF]
theorem tr (c : Chunk) : turnS c c = ([],true):=by
 unfold turnS
 rw [d7,d7,Bool.and_self,if_pos rfl,B0]
theorem pB {v : Viw} (h : aV v = true) {c : Chunk} (hc : c ∈ v.chunks) : chunkY v c = an [c.x,c.y] ++ an [0]:=by
 unfold chunkY formY
 rw [BZ h hc]
 dsimp only
 rw [tr]
 rfl
theorem Fd : ∀ (k f n : Nat),n < 128 ^ (k + 1) → (aC f n).length ≤ k + 1:=by
 intro k f
 induction f generalizing k with
 | zero=>intro n _;show 1 ≤ k + 1;omega
 | succ f ih =>
  intro n h
  unfold aC
  split
  ·show 1 ≤ k + 1;omega
  ·cases k with
   | zero=>rename_i h2;exact absurd (by simpa using h) h2
   | succ k =>
    rw [Nat.pow_succ] at h
    have:=ih k (n / 128) (by omega)
    rw [List.length_cons];omega
theorem Gn {z : Int} (h : z < 128) : (aj z.toNat).length ≤ 1:=Fd 0 9 z.toNat (by show z.toNat < 128;omega)
theorem mV {v : Viw} (h : aV v = true) : baseB v = true:=by unfold baseB;rw [h,Bool.or_true]
theorem jL : baseB aE = true:=by unfold baseB nothingB;rw [d7,Bool.true_or]
theorem rv {v n : Viw} (hv : baseB v = true) (hn : aV n = true) : makeE v n = (makeY v n,0):=by
 unfold makeE makeB
 rw [hn,hv];rfl
theorem rx (x y : Int) : aA aE x y = (bf,false):=rfl
theorem v6 (c : Chunk) : chunkY aE c = an [c.x,c.y] ++ bH c:=by
 unfold chunkY formY
 rw [rx]
 rfl
theorem zW {v : Viw} (h : aV v = true) (h1 : 1 ≤ v.chunks.length) : (makeY v v).length + 60 ≤ (makeY aE v).length:=by
 have hP:=dN h
 have hc : ∀ l : List Chunk,(∀ c ∈ l,c ∈ v.chunks) → (l.flatMap (chunkY v)).length + 60 * l.length ≤ (l.flatMap (chunkY aE)).length:=by
  intro l
  induction l with
  | nil=>intro _;simp
  | cons c t ih =>
   intro hl
   have q:=ih fun x hx=>hl x (List.mem_cons_of_mem _ hx)
   have hm:=hl c (List.mem_cons_self ..)
   have g:=(bD (hP.chunks c hm)).le.2
   have q3:=Gn (z:=0) (by omega)
   rw [List.flatMap_cons,List.flatMap_cons,List.length_append,List.length_append,List.length_cons,pB h hm,v6]
   unfold bH
   rw [ew 0]
   simp only [List.length_append]
   omega
 have q:=hc v.chunks fun _ hx=>hx
 unfold makeY
 simp only [List.length_append]
 omega
theorem B3 {v : Viw} (h : aV v = true) (h1 : 1 ≤ v.chunks.length) : takeY aE (makeY v v) = (aE,120):=by
 have hP:=dN h
 refine (tz jL).1 (.inl ?_)
 obtain ⟨c,l,hl⟩ : ∃ c l,v.chunks = c :: l:=by
  match hv : v.chunks,h1 with
  | c :: l,_=>exact ⟨c,l,rfl⟩
 have hm : c ∈ v.chunks:=by rw [hl];exact List.mem_cons_self ..
 have hat:=(bD (hP.chunks c hm)).at
 have hsp:=rD v v
 have hck:=pB h hm
 generalize makeY v v = b at *
 obtain ⟨a1,a2,a3,q⟩:=tA (v':=aE) hP hsp
 have hcs : (tkK aE b).cs = ao (br b aE) v.chunks.length (tkK aE b).nc.2:=by
  show ao (br b aE) (tkK aE b).nc.1.toNat (tkK aE b).nc.2 = _
  rw [a3,Int.toNat_natCast]
 rw [hl,List.flatMap_cons,hck,List.append_assoc,List.append_assoc] at q
 generalize (tkK aE b).nc.2 = s at *
 obtain ⟨h5,h6,h7⟩:=jq (b:=b) (m:=B40) (k:=B40) q.good q.ahead ⟨hat.1,iX (by omega)⟩ ⟨hat.2.1,iX (by omega)⟩ (by decide) (by decide)
 have q2:=jU q
 rw [ew] at q2
 obtain ⟨f1,f2⟩:=gk (most:=2) q2 (by omega) (by decide)
 have hbad : (br b aE s).2.bad = true:=by
  unfold br
  dsimp only
  rw [h7]
  dsimp only
  rw [rx,f1]
  unfold cq
  rw [if_neg (by omega),if_pos rfl]
 have hcb : (tkK aE b).cs.2.bad = true:=by
  rw [hcs,hl,List.length_cons,dH q.good]
  dsimp only
  rw [cA _ _ hbad]
  exact hbad
 have e : (tkK aE b).os = ao (ck b) (tkK aE b).no.1.toNat (tkK aE b).no.2:=rfl
 have e2 : (tkK aE b).no.2.bad = true:=bg hcb
 rw [e,cA _ _ e2];exact e2
def iW : Player:=⟨1,0,0,List.replicate 8 ⟨0,0⟩,-1,[],false⟩
def og : Wld:=⟨2,3,0,[],[]⟩
def eQ : Wld:=⟨2,3,0,[],[iW]⟩
theorem Fe : bF og iW = (eQ,0):=rfl
theorem v7 : (ofW eQ 1 0).2 = 0:=by decide
theorem ry : 1 ≤ (ofW eQ 1 0).1.chunks.length:=by
 obtain ⟨_,_,_,h4,h5⟩:=BS v7
 have hp : (aJ eQ 1).1 = iW:=rfl
 rw [h5,hp]
 show 1 ≤ (cz eQ iW 0 2 2).length
 rw [tl]
 decide
open Go Go.RowKit Eng
theorem mW {v : Viw} {b : List (El .u8)} (hv : OkV v) (h8 : au b) (hl : b.length ≤ 1000000000000) : Api Tryz.prog 38 [bk v,.vec .u8 b] (.tup [bk (takeY v b).1,i64 (takeY v b).2]):=by
 cases hB : baseB v with
 | true=>exact z_ v b hv h8 hl hB _ rfl
 | false =>
  have e : takeY v b = (aE,113):=if_pos hB
  rw [e]
  exact z9 v b hv hB
theorem zX {v : Viw} (h : aV v = true) : OkV v:=by
 have hP:=dN h
 have p6:=hP.nc;have p7:=hP.no;have p8:=hP.bag
 refine ⟨⟨fun s hs=>(hP.bagS s hs).1,fun s hs=>(hP.offS s hs).1,by omega,?_⟩,fun c hc=>fU (hP.chunks c hc),by omega,by omega⟩
 rcases hP.off with ⟨_,h,_⟩|⟨_,h⟩
 ·rw [h];simp
 ·omega
theorem jo : OkV aE:=⟨⟨(by intro s hs;cases hs),(by intro s hs;cases hs),by decide,by decide⟩,(by intro c hc;cases hc),by decide,by decide⟩
theorem Ff : OkW og:=⟨by simp [og],by simp [og],by simp [og],by decide,by decide⟩
theorem yt : OkP iW:=⟨by simp [iW,bP],by simp [iW],by decide,by decide⟩
theorem Fg : OkW eQ:=⟨by simp [eQ],by simp [eQ],(by intro p hp;rw [show p = iW by simpa [eQ] using hp];exact yt),by decide,by decide⟩
theorem v8 : ∃ V : Viw,∃ b c : List (El .u8),aV V = true ∧ (ofW eQ 1 0) = (V,0) ∧ makeE V V = (b,0) ∧ makeE aE V = (c,0) ∧ b.length + 60 ≤ c.length ∧ c.length ≤ 300000 ∧ au b ∧ au c ∧ takeY V b = (V,0) ∧ takeY aE c = (V,0) ∧ takeY aE b = (aE,120):=by
 have hr : aV (ofW eQ 1 0).1 = true:=Do v7
 have h2 : (ofW eQ 1 0) = ((ofW eQ 1 0).1,0):=Prod.ext rfl v7
 refine ⟨(ofW eQ 1 0).1,makeY (ofW eQ 1 0).1 (ofW eQ 1 0).1,makeY aE (ofW eQ 1 0).1,hr,h2,rv (mV hr) hr,rv jL hr,zW hr ry,v_ hr,kH (mV hr) hr,kH jL hr,om hr (mV hr),om hr jL,B3 hr ry⟩
theorem pC  : Api Tryz.prog 36 [] (bol true):=by
 obtain ⟨V,b,c,hr,h1,h2,h3,h4,h5,h6,h7,h8,h9,h10⟩:=v8
 have hv:=zX hr
 have g1:=DB 2 3
 rw [show qi 2 3 = (og,0) by rfl] at g1
 have g2:=E3 8 (by omega) (by omega)
 have g3:=s6 og iW Ff yt
 rw [Fe] at g3
 have g4:=zS eQ 1 0 Fg
 rw [h1] at g4
 have g5:=qk V V hv hv
 rw [h2] at g5
 have g6:=qk aE V jo hv
 rw [h3] at g6
 have g7:=mW (b:=b) hv h6 (by omega)
 rw [h8] at g7
 have g8:=mW (b:=c) jo h7 (by omega)
 rw [h9] at g8
 have g9:=mW (b:=b) jo h6 (by omega)
 rw [h10] at g9
 have g10:=qO V V hv
 rw [d7] at g10
 have eV : List.replicate (Int.toNat 8) (⟨0,0⟩ : aG) = iW.bag:=rfl
 rw [eV] at g2
 have lP : nW [AV.agg [i64 1,i64 0,i64 0,.vec .slot iW.bag,i64 (-1),.lit (.slice none 0 0),.ff]] [cN iW]:=.cons (Le.agg (.cons (Le.refl _) (.cons (Le.refl _) (.cons (Le.refl _) (.cons (Le.refl _) (.cons (Le.refl _) (.cons (Le.nil _) (.cons (Le.ff rfl) .nil)))))))) .nil
 have g3:=gQ g3 (.cons (Le.refl _) lP)
 have lE : Le (AV.agg [i64 0,i64 0,i64 0,i64 0,.lit (.slice none 0 0),i64 0,.lit (.slice none 0 0),.ff,.lit (.slice none 0 0),.lit (.slice none 0 0)]) (bk aE):=Le.agg (.cons (Le.refl _) (.cons (Le.refl _) (.cons (Le.refl _) (.cons (Le.refl _) (.cons (Le.nil _) (.cons (Le.refl _) (.cons (Le.nil _) (.cons (Le.ff rfl) (.cons (Le.nil _) (.cons (Le.nil _) .nil))))))))))
 have g6:=gQ g6 (.cons lE (.cons (Le.refl _) .nil))
 have g8:=gQ g8 (.cons lE (.cons (Le.refl _) .nil))
 have g9:=gQ g9 (.cons lE (.cons (Le.refl _) .nil))
 clear h1 h2 h3 h8 h9 h10 h6 h7 hr
 generalize iW.bag = ZB at *
 generalize hW1 : og = W1 at *
 generalize hW2 : eQ = W2 at *
 clear hW1 hW2
 dsimp only at *
 refine aF Tryz.func36 98 ?_
 ((repeat (first|(with_reducible refine af fun N hN hE hT=>?_)|(with_reducible refine ah fun N hN hE hT=>?_)));(try with_reducible refine ai fun X Y hX hY=>?_);(conv=>whnf))
 repeat' (first|exact trivial|((first|((first|apply hT|apply hE|apply hN);clear hN hE hT)|((first|refine hX ?_|refine hY ?_);clear hX hY)|(refine ⟨fun hb=>?_,fun hb=>?_⟩<;>(try simp only [nrm] at hb)<;>try exact kZ hb)|refine kV ?_)<;>((repeat (first|(with_reducible refine af fun N hN hE hT=>?_)|(with_reducible refine ah fun N hN hE hT=>?_)));(try with_reducible refine ai fun X Y hX hY=>?_);(conv=>whnf)))|refine kY ?_ ?_)
 all_goals trace_state
end Go.Proofs.YtaecchphjploaaaGreat
