/- Deltas upon their own views, plain; homesteadlaw20.small, awake. -/
import Derived.Test.YtaecchphjploaaaGreatGp
import Derived.Test.YtaecchphjploaaaGreatGi
import Derived.Test.YtaecchphjploaaaGreatGl
set_option linter.unusedSimpArgs false
set_option linter.unusedVariables false
set_option maxRecDepth 100000
set_option maxHeartbeats 16000000
namespace Go.Proofs.YtaecchphjploaaaGreat
open Go Go.RowKit Eng
def keyX (c : Chunk) : Int:=16 * c.y + c.x
theorem rise_step {v : Viw} (h : rightV v = true) {i : Nat} (hi : i + 1 < v.chunks.length) : keyX (elt .chunk v.chunks i) < keyX (elt .chunk v.chunks (i + 1)):=by
 have hP:=rightV_P h
 have g1:=(goodC_right (hP.chunks _ (elt_mem (t:=.chunk) (l:=v.chunks) (i:=i) (by omega)))).at
 have g2:=(goodC_right (hP.chunks _ (elt_mem (t:=.chunk) (l:=v.chunks) (i:=i + 1) hi))).at
 unfold rightV at h
 rw [Bool.and_eq_true,Bool.and_eq_true] at h
 have h2:=List.all_eq_true.1 h.1.2 (i + 1) (List.mem_range.2 hi)
 unfold okCh at h2
 simp only [Bool.and_eq_true,Bool.or_eq_true,decide_eq_true_eq] at h2
 rcases h2.2 with h3|h3
 ·omega
 ·rw [show i + 1 - 1 = i by omega] at h3
  unfold orderI cmpOr cmpI at h3
  unfold keyX
  (repeat' split at h3)<;>omega
theorem rise_lt {v : Viw} (h : rightV v = true) {i : Nat} : ∀ d,i + d + 1 < v.chunks.length → keyX (elt .chunk v.chunks i) < keyX (elt .chunk v.chunks (i + d + 1))
 | 0,hd=>rise_step h hd
 | d + 1,hd=>by
  have h1:=rise_lt h (i:=i) d (by omega)
  have h2:=rise_step h (i:=i + d + 1) hd
  rw [show i + (d + 1) + 1 = i + d + 1 + 1 by omega]
  omega
theorem key_inj {v : Viw} (h : rightV v = true) {a c : Chunk} (ha : a ∈ v.chunks) (hc : c ∈ v.chunks) (hx : a.x = c.x) (hy : a.y = c.y) : a = c:=by
 obtain ⟨i,hi,rfl⟩:=List.getElem_of_mem ha
 obtain ⟨j,hj,rfl⟩:=List.getElem_of_mem hc
 have e : ∀ k (hk : k < v.chunks.length),elt .chunk v.chunks k = v.chunks[k]:=fun k hk=>by
  have:=elt_get .chunk v.chunks k hk
  rw [List.getElem?_eq_getElem hk] at this
  exact (Option.some.inj this).symm
 have hk : keyX v.chunks[i] = keyX v.chunks[j]:=by unfold keyX;rw [hx,hy]
 rw [← e i hi,← e j hj] at hk
 have : i = j:=by
  rcases Nat.lt_trichotomy i j with h1|h1|h1
  ·have:=rise_lt h (i:=i) (j - i - 1) (by omega)
   rw [show i + (j - i - 1) + 1 = j by omega] at this
   omega
  ·exact h1
  ·have:=rise_lt h (i:=j) (i - j - 1) (by omega)
   rw [show j + (i - j - 1) + 1 = i by omega] at this
   omega
 subst this;rfl
theorem find_self {v : Viw} (h : rightV v = true) {c : Chunk} (hc : c ∈ v.chunks) : findV v c.x c.y = (c,true):=by
 have h1 : (findV v c.x c.y).2 = true:=by
  rw [findV_had,List.any_eq_true]
  exact ⟨c,hc,by simp [hereC]⟩
 obtain ⟨h2,h3,h4⟩:=findV_spec h1
 exact Prod.ext (key_inj h h2 hc h3 h4) h1
theorem diff_self (a : List (El .u8)) (n : Nat) : diffI a a n = []:=by
 unfold diffI
 rw [List.map_eq_nil_iff,List.filter_eq_nil_iff]
 intro k _
 simp [diffB]
theorem turn_self (c : Chunk) : turnS c c = ([],true):=by
 unfold turnS
 rw [eqv_self,eqv_self,Bool.and_self,if_pos rfl,diff_self]
theorem chunkY_self {v : Viw} (h : rightV v = true) {c : Chunk} (hc : c ∈ v.chunks) : chunkY v c = putY [c.x,c.y] ++ putY [0]:=by
 unfold chunkY formY
 rw [find_self h hc]
 dsimp only
 rw [turn_self]
 rfl
theorem uint_le : ∀ (k f n : Nat),n < 128 ^ (k + 1) → (uintF f n).length ≤ k + 1:=by
 intro k f
 induction f generalizing k with
 | zero=>intro n _;show 1 ≤ k + 1;omega
 | succ f ih =>
  intro n h
  unfold uintF
  split
  ·show 1 ≤ k + 1;omega
  ·cases k with
   | zero=>rename_i h2;exact absurd (by simpa using h) h2
   | succ k =>
    rw [Nat.pow_succ] at h
    have:=ih k (n / 128) (by omega)
    rw [List.length_cons];omega
theorem uint1 {z : Int} (h : z < 128) : (uintL z.toNat).length ≤ 1:=uint_le 0 9 z.toNat (by show z.toNat < 128;omega)
theorem right_base {v : Viw} (h : rightV v = true) : baseB v = true:=by unfold baseB;rw [h,Bool.or_true]
theorem empty_base : baseB emptyV = true:=by unfold baseB nothingB;rw [eqv_self,Bool.true_or]
theorem makeE_good {v n : Viw} (hv : baseB v = true) (hn : rightV n = true) : makeE v n = (makeY v n,0):=by
 unfold makeE makeB
 rw [hn,hv];rfl
theorem find_empty (x y : Int) : findV emptyV x y = (emptyK,false):=rfl
theorem chunkY_empty (c : Chunk) : chunkY emptyV c = putY [c.x,c.y] ++ wholeY c:=by
 unfold chunkY formY
 rw [find_empty]
 rfl
theorem make_whole {v : Viw} (h : rightV v = true) (h1 : 1 ≤ v.chunks.length) : (makeY v v).length + 60 ≤ (makeY emptyV v).length:=by
 have hP:=rightV_P h
 have hc : ∀ l : List Chunk,(∀ c ∈ l,c ∈ v.chunks) → (l.flatMap (chunkY v)).length + 60 * l.length ≤ (l.flatMap (chunkY emptyV)).length:=by
  intro l
  induction l with
  | nil=>intro _;simp
  | cons c t ih =>
   intro hl
   have q:=ih fun x hx=>hl x (List.mem_cons_of_mem _ hx)
   have hm:=hl c (List.mem_cons_self ..)
   have g:=(goodC_right (hP.chunks c hm)).le.2
   have q3:=uint1 (z:=0) (by omega)
   rw [List.flatMap_cons,List.flatMap_cons,List.length_append,List.length_append,List.length_cons,chunkY_self h hm,chunkY_empty]
   unfold wholeY
   rw [put_one 0]
   simp only [List.length_append]
   omega
 have q:=hc v.chunks fun _ hx=>hx
 unfold makeY
 simp only [List.length_append]
 omega
theorem take_none {v : Viw} (h : rightV v = true) (h1 : 1 ≤ v.chunks.length) : takeY emptyV (makeY v v) = (emptyV,120):=by
 have hP:=rightV_P h
 refine (take_ways empty_base).1 (.inl ?_)
 obtain ⟨c,l,hl⟩ : ∃ c l,v.chunks = c :: l:=by
  match hv : v.chunks,h1 with
  | c :: l,_=>exact ⟨c,l,rfl⟩
 have hm : c ∈ v.chunks:=by rw [hl];exact List.mem_cons_self ..
 have hat:=(goodC_right (hP.chunks c hm)).at
 have hsp:=make_split v v
 have hck:=chunkY_self h hm
 generalize makeY v v = b at *
 obtain ⟨a1,a2,a3,q⟩:=head_read (v':=emptyV) hP hsp
 have hcs : (tkK emptyV b).cs = manyR (chunkRS b emptyV) v.chunks.length (tkK emptyV b).nc.2:=by
  show manyR (chunkRS b emptyV) (tkK emptyV b).nc.1.toNat (tkK emptyV b).nc.2 = _
  rw [a3,Int.toNat_natCast]
 rw [hl,List.flatMap_cons,hck,List.append_assoc,List.append_assoc] at q
 generalize (tkK emptyV b).nc.2 = s at *
 obtain ⟨h5,h6,h7⟩:=two_write (b:=b) (m:=B40) (k:=B40) q.good q.ahead ⟨hat.1,le40 (by omega)⟩ ⟨hat.2.1,le40 (by omega)⟩ (by decide) (by decide)
 have q2:=at_next q
 rw [put_one] at q2
 obtain ⟨f1,f2⟩:=numI_at (most:=2) q2 (by omega) (by decide)
 have hbad : (chunkRS b emptyV s).2.bad = true:=by
  unfold chunkRS
  dsimp only
  rw [h7]
  dsimp only
  rw [find_empty,f1]
  unfold restR
  rw [if_neg (by omega),if_pos rfl]
 have hcb : (tkK emptyV b).cs.2.bad = true:=by
  rw [hcs,hl,List.length_cons,many_next q.good]
  dsimp only
  rw [many_stays _ _ hbad]
  exact hbad
 have e : (tkK emptyV b).os = manyR (seenR b) (tkK emptyV b).no.1.toNat (tkK emptyV b).no.2:=rfl
 have e2 : (tkK emptyV b).no.2.bad = true:=numI_stays hcb
 rw [e,many_stays _ _ e2];exact e2
def oneP : Player:=⟨1,0,0,List.replicate 8 ⟨0,0⟩,-1,[],false⟩
def oneW : Wld:=⟨2,3,0,[],[]⟩
def twoW : Wld:=⟨2,3,0,[],[oneP]⟩
theorem set_one : setW oneW oneP = (twoW,0):=rfl
theorem of_two : (ofW twoW 1 0).2 = 0:=by decide
theorem two_chunks : 1 ≤ (ofW twoW 1 0).1.chunks.length:=by
 obtain ⟨_,_,_,h4,h5⟩:=ofW_ok of_two
 have hp : (playerW twoW 1).1 = oneP:=rfl
 rw [h5,hp]
 show 1 ≤ (rowsV twoW oneP 0 2 2).length
 rw [rowsV_cnt]
 decide
open Go Go.RowKit Eng
theorem take_api {v : Viw} {b : List (El .u8)} (hv : OkV v) (h8 : okU8 b) (hl : b.length ≤ 1000000000000) : Api Tryz.prog 38 [viewV v,.vec .u8 b] (.tup [viewV (takeY v b).1,i64 (takeY v b).2]):=by
 cases hB : baseB v with
 | true=>exact takeIn_api v b hv h8 hl hB _ rfl
 | false =>
  have e : takeY v b = (emptyV,113):=if_pos hB
  rw [e]
  exact takeNo_api v b hv hB
theorem okV_right3 {v : Viw} (h : rightV v = true) : OkV v:=by
 have hP:=rightV_P h
 have p6:=hP.nc;have p7:=hP.no;have p8:=hP.bag
 refine ⟨⟨fun s hs=>(hP.bagS s hs).1,fun s hs=>(hP.offS s hs).1,by omega,?_⟩,fun c hc=>okC_right (hP.chunks c hc),by omega,by omega⟩
 rcases hP.off with ⟨_,h,_⟩|⟨_,h⟩
 ·rw [h];simp
 ·omega
theorem okV_empty : OkV emptyV:=⟨⟨(by intro s hs;cases hs),(by intro s hs;cases hs),by decide,by decide⟩,(by intro c hc;cases hc),by decide,by decide⟩
theorem okW_one : OkW oneW:=⟨by simp [oneW],by simp [oneW],by simp [oneW],by decide,by decide⟩
theorem okP_one : OkP oneP:=⟨by simp [oneP,okSlot],by simp [oneP],by decide,by decide⟩
theorem okW_two : OkW twoW:=⟨by simp [twoW],by simp [twoW],(by intro p hp;rw [show p = oneP by simpa [twoW] using hp];exact okP_one),by decide,by decide⟩
theorem awake20_data : ∃ V : Viw,∃ b c : List (El .u8),rightV V = true ∧ (ofW twoW 1 0) = (V,0) ∧ makeE V V = (b,0) ∧ makeE emptyV V = (c,0) ∧ b.length + 60 ≤ c.length ∧ c.length ≤ 300000 ∧ okU8 b ∧ okU8 c ∧ takeY V b = (V,0) ∧ takeY emptyV c = (V,0) ∧ takeY emptyV b = (emptyV,120):=by
 have hr : rightV (ofW twoW 1 0).1 = true:=of_right of_two
 have h2 : (ofW twoW 1 0) = ((ofW twoW 1 0).1,0):=Prod.ext rfl of_two
 refine ⟨(ofW twoW 1 0).1,makeY (ofW twoW 1 0).1 (ofW twoW 1 0).1,makeY emptyV (ofW twoW 1 0).1,hr,h2,makeE_good (right_base hr) hr,makeE_good empty_base hr,make_whole hr two_chunks,makeY_le hr,u8_makeY (right_base hr) hr,u8_makeY empty_base hr,take_make hr (right_base hr),take_make hr empty_base,take_none hr two_chunks⟩
theorem awake20_api  : Api Tryz.prog 36 [] (bol true):=by
 obtain ⟨V,b,c,hr,h1,h2,h3,h4,h5,h6,h7,h8,h9,h10⟩:=awake20_data
 have hv:=okV_right3 hr
 have g1:=wnew_api 2 3
 rw [show newW 2 3 = (oneW,0) by rfl] at g1
 have g2:=new_api 8 (by omega) (by omega)
 have g3:=set_world oneW oneP okW_one okP_one
 rw [set_one] at g3
 have g4:=viewOf_api twoW 1 0 okW_two
 rw [h1] at g4
 have g5:=make_api V V hv hv
 rw [h2] at g5
 have g6:=make_api emptyV V okV_empty hv
 rw [h3] at g6
 have g7:=take_api (b:=b) hv h6 (by omega)
 rw [h8] at g7
 have g8:=take_api (b:=c) okV_empty h7 (by omega)
 rw [h9] at g8
 have g9:=take_api (b:=b) okV_empty h6 (by omega)
 rw [h10] at g9
 have g10:=same19_api V V hv
 rw [eqv_self] at g10
 have eV : List.replicate (Int.toNat 8) (⟨0,0⟩ : Slot) = oneP.bag:=rfl
 rw [eV] at g2
 have lP : LesL [AV.agg [i64 1,i64 0,i64 0,.vec .slot oneP.bag,i64 (-1),.lit (.slice none 0 0),.ff]] [playerV oneP]:=.cons (Le.agg (.cons (Le.refl _) (.cons (Le.refl _) (.cons (Le.refl _) (.cons (Le.refl _) (.cons (Le.refl _) (.cons (Le.nil _) (.cons (Le.ff rfl) .nil)))))))) .nil
 have g3:=api_weak g3 (.cons (Le.refl _) lP)
 have lE : Le (AV.agg [i64 0,i64 0,i64 0,i64 0,.lit (.slice none 0 0),i64 0,.lit (.slice none 0 0),.ff,.lit (.slice none 0 0),.lit (.slice none 0 0)]) (viewV emptyV):=Le.agg (.cons (Le.refl _) (.cons (Le.refl _) (.cons (Le.refl _) (.cons (Le.refl _) (.cons (Le.nil _) (.cons (Le.refl _) (.cons (Le.nil _) (.cons (Le.ff rfl) (.cons (Le.nil _) (.cons (Le.nil _) .nil))))))))))
 have g6:=api_weak g6 (.cons lE (.cons (Le.refl _) .nil))
 have g8:=api_weak g8 (.cons lE (.cons (Le.refl _) .nil))
 have g9:=api_weak g9 (.cons lE (.cons (Le.refl _) .nil))
 clear h1 h2 h3 h8 h9 h10 h6 h7 hr
 generalize oneP.bag = ZB at *
 generalize hW1 : oneW = W1 at *
 generalize hW2 : twoW = W2 at *
 clear hW1 hW2
 dsimp only at *
 refine aF Tryz.func36 98 ?_
 ((repeat (first|(with_reducible refine evCut fun N hN hE hT=>?_)|(with_reducible refine evBlk fun N hN hE hT=>?_)));(try with_reducible refine evCnd fun X Y hX hY=>?_);(conv=>whnf))
 repeat' (first|exact trivial|((first|((first|apply hT|apply hE|apply hN);clear hN hE hT)|((first|refine hX ?_|refine hY ?_);clear hX hY)|(refine ⟨fun hb=>?_,fun hb=>?_⟩<;>(try simp only [nrm] at hb)<;>try exact kZ hb)|refine kV ?_)<;>((repeat (first|(with_reducible refine evCut fun N hN hE hT=>?_)|(with_reducible refine evBlk fun N hN hE hT=>?_)));(try with_reducible refine evCnd fun X Y hX hY=>?_);(conv=>whnf)))|refine kY ?_ ?_)
 all_goals trace_state
end Go.Proofs.YtaecchphjploaaaGreat
