/- homesteadlaw20.SnapOther. -/
import Derived.Test.YtaecchphjploaaaGreatRq
set_option linter.unusedSimpArgs false
set_option linter.unusedVariables false
set_option maxRecDepth 100000
set_option maxHeartbeats 16000000
namespace Eng
open Go Go.RowKit
def mdels : Mem → List (Nat × Blk) → Mem
 | m,[]=>m
 | m,(k,_) :: r=>mdels (mdel m k) r
def catR : List (Nat × Blk) → List (Nat × Blk) → List (Nat × Blk)
 | [],b=>b
 | p :: r,b=>p :: catR r b
theorem catR_eq (a b : List (Nat × Blk)) : catR a b = a ++ b:=by
 induction a with
 | nil=>rfl
 | cons p r ih=>simp [catR,ih]
theorem nones_app (a b : List (Nat × Blk)) : nones (a ++ b) = nones a ++ nones b:=by
 induction a with
 | nil=>rfl
 | cons p r ih=>obtain ⟨k,c⟩:=p;simp [nones,ih]
theorem mget_mdels : ∀ {rd : List (Nat × Blk)} {m : Mem} {j : Nat} {b : Blk},mget (mdels m rd) j = some b → mget m j = some b ∧ ∀ p ∈ rd,p.1 ≠ j
 | [],m,j,b,h=>⟨h,by simp⟩
 | (k,c) :: r,m,j,b,h=>by
   obtain ⟨h1,h2⟩:=mget_mdels (rd:=r) h
   rw [mget_mdel] at h1
   by_cases hk : k = j
   · rw [if_pos hk] at h1;cases h1
   · rw [if_neg hk] at h1
     refine ⟨h1,fun p hp=>?_⟩
     rcases List.mem_cons.1 hp with rfl|hp
     · exact hk
     · exact h2 p hp
theorem putsM_nones {rd : List (Nat × Blk)} : ∀ {m : Nat → Option Blk} {j : Nat},(∀ p ∈ rd,p.1 ≠ j) → putsM (nones rd) m j = m j:=by
 induction rd with
 | nil=>intro m j _;rfl
 | cons p r ih =>
   obtain ⟨k,c⟩:=p
   intro m j h
   simp only [nones,putsM]
   rw [ih (fun p hp=>h p (by simp [hp])),put_ne _ _ (fun e=>h (k,c) (by simp) e)]
mutual
def frzN : AV → Mem → (AV → List (Nat × Blk) → Prop) → Prop
 | .own t k off n _,m,K=>memK m k fun b=>match b with
   | .row t' l=>match tyB t' t with
     | true=>asK t' t l fun l=>off + n ≤ l.length ∧ K (.vec t ((l.drop off).take n)) [(k,.row t l)]
     | false=>False
   | _=>False
 | .agg cs,m,K=>frzNL cs m fun cs rd=>K (.agg cs) rd
 | .tup cs,m,K=>frzNL cs m fun cs rd=>K (.tup cs) rd
 | v,_,K=>K v []
def frzNL : List AV → Mem → (List AV → List (Nat × Blk) → Prop) → Prop
 | [],_,K=>K [] []
 | c :: r,m,K=>frzN c m fun c rd=>frzNL r (mdels m rd) fun r rd2=>K (c :: r) (catR rd rd2)
end
mutual
theorem frzN_ok : ∀ (v : AV) {m : Mem} {K : AV → List (Nat × Blk) → Prop},frzN v m K → ∃ v' rd,K v' rd ∧ (∀ p ∈ rd,mget m p.1 = some p.2) ∧ FrzOk rd fun w g g1 lim=>∀ x,Rep w g lim v x → Rep w g1 lim v' x
 | .own t k off n cc,m,K,h=>by
   simp only [frzN] at h
   obtain ⟨b,hb,h⟩:=memK_ok h
   cases b with
   | box _=>exact h.elim
   | mp _ _=>exact h.elim
   | pm _ _ _=>exact h.elim
   | row t' l =>
     simp only at h
     cases ht : tyB t' t with
     | false=>rw [ht] at h;exact h.elim
     | true =>
     rw [ht] at h
     have e1:=tyB_ok ht
     subst e1
     obtain ⟨e2,h2⟩:=asK_ok h
     obtain ⟨hlen,hK⟩:=h2
     have hcast : (e2 ▸ l) = l:=rfl
     rw [hcast] at hK hlen
     refine ⟨_,_,hK,fun p hp=>by simp only [List.mem_singleton] at hp;subst hp;exact hb,fun m' w g lim hm hr=>?_⟩
     have hk : m' k = some (.row t' l):=hr (k,.row t' l) (by simp)
     have hal : g.al k:=(hm.al k).2 (by simp [hk])
     exact ⟨g.freeze k,hm.freeze hal,fun base=>LeG.freeze base g k,fun v x hv=>hv.freeze k,fun x hx=>Rep.toVec hm hk hlen hx⟩
 | .agg cs,m,K,h=>by
   simp only [frzN] at h
   obtain ⟨cs',rd,hK,hrd,hh⟩:=frzNL_ok cs h
   refine ⟨_,_,hK,hrd,fun m' w g lim hm hr=>?_⟩
   obtain ⟨g1,q1,q2,q3,q4⟩:=hh m' w g lim hm hr
   refine ⟨g1,q1,q2,q3,fun x hx=>?_⟩
   cases hx with
   | agg _ xs hl h =>
     have h2:=q4 xs ⟨hl,h⟩
     exact .agg _ xs h2.1 h2.2
 | .tup cs,m,K,h=>by
   simp only [frzN] at h
   obtain ⟨cs',rd,hK,hrd,hh⟩:=frzNL_ok cs h
   refine ⟨_,_,hK,hrd,fun m' w g lim hm hr=>?_⟩
   obtain ⟨g1,q1,q2,q3,q4⟩:=hh m' w g lim hm hr
   refine ⟨g1,q1,q2,q3,fun x hx=>?_⟩
   cases hx with
   | tup _ xs hl h =>
     have h2:=q4 xs ⟨hl,h⟩
     exact .tup _ xs h2.1 h2.2
 | .top,m,K,h=>⟨_,_,h,by simp,.nil fun w g lim x hx=>hx⟩
 | .tt,m,K,h=>⟨_,_,h,by simp,.nil fun w g lim x hx=>hx⟩
 | .ff,m,K,h=>⟨_,_,h,by simp,.nil fun w g lim x hx=>hx⟩
 | .bl _ _,m,K,h=>⟨_,_,h,by simp,.nil fun w g lim x hx=>hx⟩
 | .emp _,m,K,h=>⟨_,_,h,by simp,.nil fun w g lim x hx=>hx⟩
 | .lit _,m,K,h=>⟨_,_,h,by simp,.nil fun w g lim x hx=>hx⟩
 | .vec _ _,m,K,h=>⟨_,_,h,by simp,.nil fun w g lim x hx=>hx⟩
 | .ptr _ _,m,K,h=>⟨_,_,h,by simp,.nil fun w g lim x hx=>hx⟩
 | .rptr _ _ _ _,m,K,h=>⟨_,_,h,by simp,.nil fun w g lim x hx=>hx⟩
 | .vptr _ _ _ _,m,K,h=>⟨_,_,h,by simp,.nil fun w g lim x hx=>hx⟩
 | .clo _ _ _,m,K,h=>⟨_,_,h,by simp,.nil fun w g lim x hx=>hx⟩
 | .mp _,m,K,h=>⟨_,_,h,by simp,.nil fun w g lim x hx=>hx⟩
theorem frzNL_ok : ∀ (cs : List AV) {m : Mem} {K : List AV → List (Nat × Blk) → Prop},frzNL cs m K → ∃ cs' rd,K cs' rd ∧ (∀ p ∈ rd,mget m p.1 = some p.2) ∧ FrzOk rd fun w g g1 lim=>∀ xs,RepL w g lim cs xs → RepL w g1 lim cs' xs
 | [],m,K,h=>⟨[],[],h,by simp,.nil fun w g lim xs hx=>hx⟩
 | c :: r,m,K,h=>by
   simp only [frzNL] at h
   obtain ⟨c',rd,h,hrd,hh⟩:=frzN_ok c h
   obtain ⟨r',rd2,hK,hrd2,hh2⟩:=frzNL_ok r h
   rw [catR_eq] at hK
   refine ⟨_,_,hK,fun p hp=>?_,fun m' w g lim hm hr=>?_⟩
   · rcases List.mem_append.1 hp with hp|hp
     · exact hrd p hp
     · exact (mget_mdels (hrd2 p hp)).1
   · obtain ⟨g1,q1,q2,q3,q4⟩:=hh m' w g lim hm fun p hp=>hr p (List.mem_append_left _ hp)
     obtain ⟨g2,p1,p2,p3,p4⟩:=hh2 (putsM (nones rd) m') w g1 lim q1 fun p hp=>by
       rw [putsM_nones (mget_mdels (hrd2 p hp)).2];exact hr p (List.mem_append_right _ hp)
     refine ⟨g2,?_,fun base=>(q2 base).trans (p2 base),fun v x hv=>p3 v x (q3 v x hv),fun xs hx=>?_⟩
     · rw [nones_app,putsM_app];exact p1
     · obtain ⟨x,ys,hxs⟩ : ∃ x ys,xs.toList = x :: ys:=by
         cases hx2 : xs.toList with
         | nil=>have:=hx.1;rw [← Array.length_toList,hx2] at this;simp at this
         | cons x ys=>exact ⟨x,ys,rfl⟩
       have hx2 : xs = (x :: ys).toArray:=by rw [← hxs]
       subst hx2
       exact RepL.cons0 (p3 _ _ (q4 x (hx.2 0 c x (by simp) (by simp)))) (p4 ys.toArray ⟨by have:=hx.1;simpa using this,fun i c2 x2 hc2 hx2=>q3 _ _ (hx.2 (i + 1) c2 x2 (by simpa using hc2) (by simpa using hx2))⟩)
end
theorem callGiveN {P : Program} {base : Nat} {fid : FuncId} {args argsV : List AV} {v : AV} (h : Api P fid argsV v) {f : List AV} {m : Mem} {d : Option Nat} {K : List AV → Mem → Prop} {J : Prop}
   (ha : pureL argsV = true) (hv : pureV v = true) (hf : frzNL args m fun a rd=>a = argsV ∧ applyK ⟨v,rd,nones rd,[]⟩ f m d K) : (∃ c : Act1,(∀ p ∈ c.rd,mget m p.1 = some p.2) ∧ CAct P base fid args c ∧ applyK c f m d K) ∨ J:=by
 obtain ⟨cs',rd,⟨rfl,hK⟩,hrd,hfr⟩:=frzNL_ok args hf
 refine .inl ⟨_,hrd,h.give ha hv base fun m' w g lim hm hr=>?_,hK⟩
 obtain ⟨g1,q1,q2,q3,q4⟩:=hfr m' w g lim hm hr
 exact ⟨g1,q1,q2,q3,fun xs hx=>q4 xs.toArray hx⟩
end Eng
namespace Go.Proofs.YtaecchphjploaaaGreat
open Go Go.RowKit Eng
theorem all2_elt {R : Chunk → Chunk → Prop} : ∀ {a b : List Chunk},All2 R a b → a.length = b.length ∧ ∀ i,i < a.length → R (elt .chunk a i) (elt .chunk b i)
 | [],[],.nil=>⟨rfl,fun i hi=>absurd hi (Nat.not_lt_zero i)⟩
 | x :: a,y :: b,.cons h t=>by
   obtain ⟨h1,h2⟩:=all2_elt t
   refine ⟨by rw [List.length_cons,List.length_cons,h1],fun i hi=>?_⟩
   cases i with
   | zero=>exact h
   | succ i=>exact h2 i (by simpa using hi)
theorem other_data {base other now : Viw} (hb : rightV base = true) (ho : rightV other = true) (hn : rightV now = true) : ∃ b : List (El .u8),∃ R : Viw × Int,makeE base now = (b,0) ∧ takeY other b = R ∧ b.length ≤ 300000 ∧ okU8 b ∧ (R = (emptyV,120) ∨ (R.2 = 0 ∧ rightV R.1 = true ∧ R.1.tick = now.tick ∧ R.1.me = now.me ∧ now.chunks.length = R.1.chunks.length ∧ ∀ i,i < now.chunks.length → (elt .chunk R.1.chunks i).x = (elt .chunk now.chunks i).x ∧ (elt .chunk R.1.chunks i).y = (elt .chunk now.chunks i).y ∧ (base.chunks.any (hereC (elt .chunk now.chunks i).x (elt .chunk now.chunks i).y) = false → elt .chunk R.1.chunks i = elt .chunk now.chunks i))):=by
 refine ⟨makeY base now,takeY other (makeY base now),makeE_good (right_base hb) hn,rfl,makeY_le hn,u8_makeY (right_base hb) hn,?_⟩
 obtain ⟨w1,w2,w3,w4⟩:=take_ways (b:=makeY base now) (right_base ho)
 rcases take_sync (v':=other) hn (right_base hb) with ⟨h,_⟩|⟨h1,h2,h3,h4,h5,h6,h7⟩
 · exact .inl (w1 (.inl h))
 · cases hm : makeB other (takeN other (makeY base now)) with
   | false=>exact .inl (w2 hm)
   | true =>
     by_cases he : makeY other (takeN other (makeY base now)) = makeY base now
     · right
       rw [w4 h1 h2 hm he]
       unfold makeB at hm
       rw [Bool.and_eq_true] at hm
       obtain ⟨q1,q2⟩:=all2_elt h7
       refine ⟨rfl,hm.1,h3,h4,q1,fun i hi=>?_⟩
       obtain ⟨r1,r2,r3⟩:=q2 i hi
       rw [findV_had] at r3
       exact ⟨r1,r2,r3⟩
     · exact .inl (w3 he)
def slotB (s : Slot) : List Int:=[s.item,s.n]
theorem row_grow2 {t : Ty} {l : List (El t)} {a e : El t} : List.take (l.length + (List.take 2 (List.drop 0 [a,e])).length) (List.take l.length l ++ List.take 2 (List.drop 0 [a,e])) = l ++ [a,e]:=by
 rw [show List.take 2 (List.drop 0 [a,e]) = [a,e] from rfl,List.take_length,List.take_of_length_le (by rw [List.length_append];simp)]
theorem slotsOf_api (l : List (El .slot)) (hl : l.length ≤ 1000) (ho : ∀ s ∈ l,(0 ≤ s.item ∧ s.item ≤ 255) ∧ 0 ≤ s.n ∧ s.n ≤ 16) : Api Tryz.prog 45 [.vec .slot l] (.vec .u8 (l.flatMap slotB)):=by
 refine Api.of_fin cfg_ok Tryz.func45 rfl (nt:=21) rfl rfl ?_
 conv=>whnf
 refine Runs.loopS cfg_ok (σ:=Nat) [3,6,7,8] (fun k=>[.own .u8 39 0 ((l.take k).flatMap slotB).length none,.vec .slot l,i64 l.length,i64 k]) (fun k=>[(39,.row .u8 ((l.take k).flatMap slotB))]) (fun k=>k ≤ l.length) (fun k=>l.length - k) 0 (by omega) ?_ ?_
 · conv=>whnf
   repeat' (first|exact trivial|((first|refine kL ?_|(refine ⟨fun hb=>?_,fun hb=>?_⟩<;>(try simp only [nrm] at hb)<;>(try (first|(exfalso;omega)|contradiction|exact kB hb)))|refine kW cfg_ok ?_|refine kC ?_|refine bdA ?_|refine bd2 ?_|refine bdR ?_|refine bdL ?_)<;>(conv=>whnf))|(refine And.intro ?_ ?_;rotate_left;(conv=>whnf);rotate_right))
   all_goals rfl
 · intro k hk
   have hfl:=flatMap_len slotB 2 (l.take k) (fun s _=>Nat.le_refl _)
   rw [List.length_take] at hfl
   by_cases hlt : k < l.length
   · have hs:=ho _ (elt_mem (t:=.slot) hlt)
     have hnx : (l.take (k + 1)).flatMap slotB = (l.take k).flatMap slotB ++ [(elt .slot l k).item,(elt .slot l k).n]:=flatMap_take (t:=.slot) slotB hlt
     have u1 : 0 ≤ (elt .slot l (k : Int).toNat).n:=hs.2.1
     have u2 : (elt .slot l (k : Int).toNat).n ≤ 255:=Int.le_trans hs.2.2 (by omega)
     conv=>whnf
     repeat' (first|exact trivial|((first|refine kL ?_|(refine ⟨fun hb=>?_,fun hb=>?_⟩<;>(try simp only [nrm] at hb)<;>(try (first|(exfalso;omega)|contradiction|exact kB hb)))|(refine .inl ⟨inU8 u1 u2,?_⟩)|refine kW cfg_ok ?_|refine kC ?_|refine bdA ?_|refine bd2 ?_|refine bdR ?_|refine bdL ?_)<;>(conv=>whnf))|(refine And.intro ?_ ?_;rotate_left;(conv=>whnf);rotate_right))
     all_goals
       refine .to (k + 1) hlt (by omega) ?_
       conv=>whnf
       repeat' (first|exact trivial|((first|refine kL ?_|(refine ⟨fun hb=>?_,fun hb=>?_⟩<;>(try simp only [nrm] at hb)<;>(try (first|(exfalso;omega)|contradiction|exact kB hb)))|refine kW cfg_ok ?_|refine kC ?_|refine bdA ?_|refine bd2 ?_|refine bdR ?_|refine bdL ?_)<;>(conv=>whnf))|(refine And.intro ?_ ?_;rotate_left;(conv=>whnf);rotate_right))
     all_goals (try rw [hnx])
     all_goals first|exact row_grow2 (t:=.u8)|(rw [List.length_append];rfl)|trace_state
   · obtain rfl : k = l.length:=by omega
     rw [List.take_length]
     conv=>whnf
     repeat' (first|exact trivial|((first|refine kL ?_|(refine ⟨fun hb=>?_,fun hb=>?_⟩<;>(try simp only [nrm] at hb)<;>(try (first|(exfalso;omega)|contradiction|exact kB hb)))|refine kW cfg_ok ?_|refine kC ?_|refine bdA ?_|refine bd2 ?_|refine bdR ?_|refine bdL ?_)<;>(conv=>whnf))|(refine And.intro ?_ ?_;rotate_left;(conv=>whnf);rotate_right))
     all_goals exact List.take_length
theorem any_next {x y : Int} {l : List (El .chunk)} {j : Nat} (h : j < l.length) : (l.take (j + 1)).any (hereC x y) = ((l.take j).any (hereC x y) || hereC x y (elt .chunk l j)):=by
 rw [List.take_add_one,elt_get .chunk l j h]
 simp [List.any_append]
theorem snapOther_api (base other now : Viw) (hv1 : OkV base) (hv2 : OkV other) (hv3 : OkV now) : Api Tryz.prog 9 [viewV base,viewV other,viewV now] (bol true):=by
 have s1:=small_api base hv1
 have s2:=small_api other hv2
 have s3:=small_api now hv3
 have haw:=awake20_api
 by_cases hS : smallB base = true ∧ smallB other = true ∧ smallB now = true
 · obtain ⟨c1,c2,c3⟩:=hS
   rw [c1] at s1
   rw [c2] at s2
   rw [c3] at s3
   have r1 : rightV base = true:=by unfold smallB at c1;rw [Bool.and_eq_true] at c1;exact c1.2
   have r2 : rightV other = true:=by unfold smallB at c2;rw [Bool.and_eq_true] at c2;exact c2.2
   have r3 : rightV now = true:=by unfold smallB at c3;rw [Bool.and_eq_true] at c3;exact c3.2
   have hP:=rightV_P r3
   have hPb:=(rightV_P r1).nc
   have p8:=hP.bag
   have p6:=hP.nc
   obtain ⟨b,R,h1,h2,h3,h4,h5⟩:=other_data r1 r2 r3
   have g1:=make_api base now hv1 hv3
   rw [h1] at g1
   have g2:=take_api (b:=b) hv2 h4 (by omega)
   rw [h2] at g2
   clear h1 h2 h4 c1 c2 c3 r1 r2 r3
   rcases h5 with rfl|⟨k1,k2,k3,k4,k5,k6⟩
   · dsimp only at *
     refine Api.of_fin cfg_ok Tryz.func9 rfl (nt:=158) rfl rfl ?_
     ((repeat (first|(with_reducible refine evCut fun N hN hE hT=>?_)|(with_reducible refine evBlk fun N hN hE hT=>?_)));(try with_reducible refine evCnd fun X Y hX hY=>?_);(conv=>whnf))
     repeat' (first|exact trivial|((first|((first|refine hT _ _ ?_|refine hE _ _ _ ?_|refine hN _ _ ?_);clear hN hE hT)|((first|refine hX ?_|refine hY ?_);clear hX hY)|refine kL ?_|(refine ⟨fun hb=>?_,fun hb=>?_⟩<;>(try simp only [nrm] at hb)<;>(try (first|(exfalso;omega)|contradiction|exact kB hb)))|refine kA s1 ?_|refine kD s1 ?_|refine kA s2 ?_|refine kD s2 ?_|refine kA s3 ?_|refine kD s3 ?_|refine kA g1 ?_|refine kD g1 ?_|refine kA g2 ?_|refine kD g2 ?_|refine kA haw ?_|refine kD haw ?_|refine kW cfg_ok ?_|refine kC ?_|refine bdA ?_|refine bd2 ?_|refine bdR ?_|refine bdL ?_)<;>((repeat (first|(with_reducible refine evCut fun N hN hE hT=>?_)|(with_reducible refine evBlk fun N hN hE hT=>?_)));(try with_reducible refine evCnd fun X Y hX hY=>?_);(conv=>whnf)))|(refine And.intro ?_ ?_;rotate_left;(conv=>whnf);rotate_right))
   · have k7:=vright_api R.1 (okV_right3 k2)
     rw [k2] at k7
     have q1:=slotsOf_api now.me.bag (by omega) hP.bagS
     have q2:=equal_api (now.me.bag.flatMap slotB) (now.me.bag.flatMap slotB) (u8_flat fun s hs=>fun i hi=>by
       have:=hP.bagS s hs
       simp only [slotB,List.mem_cons,List.not_mem_nil,or_false] at hi
       rcases hi with rfl|rfl<;>omega) (u8_flat fun s hs=>fun i hi=>by
       have:=hP.bagS s hs
       simp only [slotB,List.mem_cons,List.not_mem_nil,or_false] at hi
       rcases hi with rfl|rfl<;>omega)
     rw [show eqL (now.me.bag.flatMap slotB) (now.me.bag.flatMap slotB) = true by unfold eqL;exact decide_eq_true rfl] at q2
     obtain ⟨N,e⟩:=R
     dsimp only at *
     subst k1
     obtain ⟨nt,nm,nch,nos⟩:=N
     dsimp only at *
     subst k3
     subst k4
     generalize now.me.bag.flatMap slotB = SB at *
     have hch : ∀ c ∈ now.chunks,OkC c:=hv3.chunks
     clear hP hv1 hv2 hv3 k2
     refine Api.of_fin cfg_ok Tryz.func9 rfl (nt:=158) rfl rfl ?_
     ((repeat (first|(with_reducible refine evCut fun N hN hE hT=>?_)|(with_reducible refine evBlk fun N hN hE hT=>?_)));(try with_reducible refine evCnd fun X Y hX hY=>?_);(conv=>whnf))
     repeat' (first|exact trivial|((first|((first|refine hT _ _ ?_|refine hE _ _ _ ?_|refine hN _ _ ?_);clear hN hE hT)|((first|refine hX ?_|refine hY ?_);clear hX hY)|refine kL ?_|(refine ⟨fun hb=>?_,fun hb=>?_⟩<;>(try simp only [nrm] at hb)<;>(try (first|(exfalso;omega)|contradiction|exact kB hb)))|refine kA s1 ?_|refine kD s1 ?_|refine kA s2 ?_|refine kD s2 ?_|refine kA s3 ?_|refine kD s3 ?_|refine kA g1 ?_|refine kD g1 ?_|refine kA g2 ?_|refine kD g2 ?_|refine kA k7 ?_|refine kD k7 ?_|refine kA q1 ?_|refine kD q1 ?_|refine kA q2 ?_|refine kD q2 ?_|refine kW cfg_ok ?_|refine kC ?_|refine bdA ?_|refine bd2 ?_|refine bdR ?_|refine bdL ?_)<;>((repeat (first|(with_reducible refine evCut fun N hN hE hT=>?_)|(with_reducible refine evBlk fun N hN hE hT=>?_)));(try with_reducible refine evCnd fun X Y hX hY=>?_);(conv=>whnf)))|(refine And.intro ?_ ?_;rotate_left;(conv=>whnf);rotate_right))
     clear s1 s2 s3 g1 g2 k7 q1 q2
     have hfin : ∀ i,i < now.chunks.length → ∃ C D : Chunk,elt .chunk nch i = C ∧ elt .chunk now.chunks i = D ∧ C.x = D.x ∧ C.y = D.y ∧ (base.chunks.any (hereC C.x C.y) = false → C = D) ∧ OkC D:=fun i hi=>by
       obtain ⟨e1,e2,e3⟩:=k6 i hi
       refine ⟨_,_,rfl,rfl,e1,e2,?_,hch _ (elt_mem (t:=.chunk) hi)⟩
       rw [e1,e2];exact e3
     clear k6 hch
     refine Runs.loopS cfg_ok (σ:=Nat) [3,5,91,92,93] (fun k=>[.ptr 6 0,.ptr 10 0,.vec .chunk nch,i64 nch.length,i64 k]) (fun k=>[(6,.box (viewC base)),(10,.box (viewC now))]) (fun k=>k ≤ nch.length) (fun k=>nch.length - k) 0 (by omega) ?_ ?_
     · conv=>whnf
       repeat' (first|exact trivial|((first|((first|refine hT _ _ ?_|refine hE _ _ _ ?_|refine hN _ _ ?_);clear hN hE hT)|((first|refine hX ?_|refine hY ?_);clear hX hY)|refine kL ?_|(refine ⟨fun hb=>?_,fun hb=>?_⟩<;>(try simp only [nrm] at hb)<;>(try (first|(exfalso;omega)|contradiction|exact kB hb)))|refine kW cfg_ok ?_|refine kC ?_|refine bdA ?_|refine bd2 ?_|refine bdR ?_|refine bdL ?_)<;>((repeat (first|(with_reducible refine evCut fun N hN hE hT=>?_)|(with_reducible refine evBlk fun N hN hE hT=>?_)));(try with_reducible refine evCnd fun X Y hX hY=>?_);(conv=>whnf)))|(refine And.intro ?_ ?_;rotate_left;(conv=>whnf);rotate_right))
       all_goals trace_state
     · intro k hk
       by_cases hlt : k < nch.length
       · obtain ⟨C,D,hC,hD,x1,x2,x3,x4⟩:=hfin k (by omega)
         have hC2 : elt .chunk nch (k : Int).toNat = C:=hC
         have hD2 : elt .chunk now.chunks (k : Int).toNat = D:=hD
         have hsm : C = D → Api Tryz.prog 39 [viewV ⟨0,⟨0,0,0,[],0,[],false⟩,[C],[]⟩,viewV ⟨0,⟨0,0,0,[],0,[],false⟩,[D],[]⟩] (bol true):=fun h=>by
           have q:=same19_api ⟨0,⟨0,0,0,[],0,[],false⟩,[C],[]⟩ ⟨0,⟨0,0,0,[],0,[],false⟩,[D],[]⟩ ⟨⟨(by intro s hs;cases hs),(by intro s hs;cases hs),(by show 0 * 16 ≤ 140737488351232;omega),(by show 0 * 16 ≤ 140737488351232;omega)⟩,(by intro c hc;rw [List.mem_singleton] at hc;rw [hc,h];exact x4),(by show 1 * 88 ≤ 140737488351232;omega),(by show 0 * 24 ≤ 140737488351232;omega)⟩
           rw [h,eqv_self] at q
           rw [h];exact q
         clear hfin
         conv=>whnf
         repeat' (first|exact trivial|((first|((first|refine hT _ _ ?_|refine hE _ _ _ ?_|refine hN _ _ ?_);clear hN hE hT)|((first|refine hX ?_|refine hY ?_);clear hX hY)|refine kL ?_|(refine ⟨fun hb=>?_,fun hb=>?_⟩<;>(try simp only [nrm] at hb)<;>(try (first|(exfalso;omega)|contradiction|exact kB hb)))|(rw [hC2])|refine kW cfg_ok ?_|refine kC ?_|refine bdA ?_|refine bd2 ?_|refine bdR ?_|refine bdL ?_)<;>((repeat (first|(with_reducible refine evCut fun N hN hE hT=>?_)|(with_reducible refine evBlk fun N hN hE hT=>?_)));(try with_reducible refine evCnd fun X Y hX hY=>?_);(conv=>whnf)))|(refine And.intro ?_ ?_;rotate_left;(conv=>whnf);rotate_right))
         refine Runs.loopS cfg_ok (σ:=Nat) [3,5,11,12,13,91,92,93,99,100,101] (fun j=>[.ptr 6 0,.ptr 10 0,i64 k,.ptr 24 0,bol ((base.chunks.take j).any (hereC C.x C.y)),.vec .chunk nch,i64 nch.length,i64 k,.vec .chunk base.chunks,i64 base.chunks.length,i64 j]) (fun j=>[(6,.box (viewC base)),(10,.box (viewC now)),(24,.box (chunkC C))]) (fun j=>j ≤ base.chunks.length) (fun j=>base.chunks.length - j) 0 (by omega) ?_ ?_
         · conv=>whnf
           repeat' (first|exact trivial|((first|((first|refine hT _ _ ?_|refine hE _ _ _ ?_|refine hN _ _ ?_);clear hN hE hT)|((first|refine hX ?_|refine hY ?_);clear hX hY)|refine kL ?_|(refine ⟨fun hb=>?_,fun hb=>?_⟩<;>(try simp only [nrm] at hb)<;>(try (first|(exfalso;omega)|contradiction|exact kB hb)))|refine kW cfg_ok ?_|refine kC ?_|refine bdA ?_|refine bd2 ?_|refine bdR ?_|refine bdL ?_)<;>((repeat (first|(with_reducible refine evCut fun N hN hE hT=>?_)|(with_reducible refine evBlk fun N hN hE hT=>?_)));(try with_reducible refine evCnd fun X Y hX hY=>?_);(conv=>whnf)))|(refine And.intro ?_ ?_;rotate_left;(conv=>whnf);rotate_right))
           all_goals trace_state
         · intro j hj
           by_cases hlj : j < base.chunks.length
           · have hnx:=any_next (x:=C.x) (y:=C.y) hlj
             generalize (base.chunks.take j).any (hereC C.x C.y) = had at *
             obtain ⟨B,hB⟩ : ∃ B : Chunk,elt .chunk base.chunks (j : Int).toNat = B:=⟨_,rfl⟩
             rw [show elt .chunk base.chunks j = B from hB] at hnx
             conv=>whnf
             repeat' (first|exact trivial|((first|((first|refine hT _ _ ?_|refine hE _ _ _ ?_|refine hN _ _ ?_);clear hN hE hT)|((first|refine hX ?_|refine hY ?_);clear hX hY)|refine kL ?_|(refine ⟨fun hb=>?_,fun hb=>?_⟩<;>(try simp only [nrm] at hb)<;>(try (first|(exfalso;omega)|contradiction|exact kB hb)))|(rw [hB])|refine kW cfg_ok ?_|refine kC ?_|refine bdA ?_|refine bd2 ?_|refine bdR ?_|refine bdL ?_)<;>((repeat (first|(with_reducible refine evCut fun N hN hE hT=>?_)|(with_reducible refine evBlk fun N hN hE hT=>?_)));(try with_reducible refine evCnd fun X Y hX hY=>?_);(conv=>whnf)))|(refine And.intro ?_ ?_;rotate_left;(conv=>whnf);rotate_right))
             all_goals
               refine .to (j + 1) hlj (by omega) ?_
               conv=>whnf
               repeat' (first|exact trivial|((first|((first|refine hT _ _ ?_|refine hE _ _ _ ?_|refine hN _ _ ?_);clear hN hE hT)|((first|refine hX ?_|refine hY ?_);clear hX hY)|refine kL ?_|(refine ⟨fun hb=>?_,fun hb=>?_⟩<;>(try simp only [nrm] at hb)<;>(try (first|(exfalso;omega)|contradiction|exact kB hb)))|refine kW cfg_ok ?_|refine kC ?_|refine bdA ?_|refine bd2 ?_|refine bdR ?_|refine bdL ?_)<;>((repeat (first|(with_reducible refine evCut fun N hN hE hT=>?_)|(with_reducible refine evBlk fun N hN hE hT=>?_)));(try with_reducible refine evCnd fun X Y hX hY=>?_);(conv=>whnf)))|(refine And.intro ?_ ?_;rotate_left;(conv=>whnf);rotate_right))
             all_goals
               rw [hnx]
               refine congrArg Value.bool ?_
               rw [Bool.eq_iff_iff]
               simp_all [hereC]
           · obtain rfl : j = base.chunks.length:=by omega
             rw [List.take_length]
             cases hh : base.chunks.any (hereC C.x C.y) with
             | true =>
               conv=>whnf
               repeat' (first|exact trivial|((first|((first|refine hT _ _ ?_|refine hE _ _ _ ?_|refine hN _ _ ?_);clear hN hE hT)|((first|refine hX ?_|refine hY ?_);clear hX hY)|refine kL ?_|(refine ⟨fun hb=>?_,fun hb=>?_⟩<;>(try simp only [nrm] at hb)<;>(try (first|(exfalso;omega)|contradiction|exact kB hb)))|(rw [hD2])|refine kW cfg_ok ?_|refine kC ?_|refine bdA ?_|refine bd2 ?_|refine bdR ?_|refine bdL ?_)<;>((repeat (first|(with_reducible refine evCut fun N hN hE hT=>?_)|(with_reducible refine evBlk fun N hN hE hT=>?_)));(try with_reducible refine evCnd fun X Y hX hY=>?_);(conv=>whnf)))|(refine And.intro ?_ ?_;rotate_left;(conv=>whnf);rotate_right))
               refine .to (k + 1) hlt (by omega) ?_
               conv=>whnf
               repeat' (first|exact trivial|((first|((first|refine hT _ _ ?_|refine hE _ _ _ ?_|refine hN _ _ ?_);clear hN hE hT)|((first|refine hX ?_|refine hY ?_);clear hX hY)|refine kL ?_|(refine ⟨fun hb=>?_,fun hb=>?_⟩<;>(try simp only [nrm] at hb)<;>(try (first|(exfalso;omega)|contradiction|exact kB hb)))|refine kW cfg_ok ?_|refine kC ?_|refine bdA ?_|refine bd2 ?_|refine bdR ?_|refine bdL ?_)<;>((repeat (first|(with_reducible refine evCut fun N hN hE hT=>?_)|(with_reducible refine evBlk fun N hN hE hT=>?_)));(try with_reducible refine evCnd fun X Y hX hY=>?_);(conv=>whnf)))|(refine And.intro ?_ ?_;rotate_left;(conv=>whnf);rotate_right))
             | false =>
               have lV : ∀ X : AV,Le (AV.agg [i64 0,i64 0,i64 0,i64 0,.lit (.slice none 0 0),i64 0,.lit (.slice none 0 0),.ff,X,.lit (.slice none 0 0)]) (.agg [i64 0,i64 0,i64 0,i64 0,.vec .slot [],i64 0,.vec .slot [],bol false,X,.vec .seen []]):=fun X=>Le.agg (.cons (Le.refl _) (.cons (Le.refl _) (.cons (Le.refl _) (.cons (Le.refl _) (.cons (Le.nil _) (.cons (Le.refl _) (.cons (Le.nil _) (.cons (Le.ff rfl) (.cons (Le.refl _) (.cons (Le.nil _) .nil))))))))))
               have hsm:=api_weak (hsm (x3 hh)) (.cons (lV (.vec .chunk [C])) (.cons (lV (.vec .chunk [D])) .nil))
               conv=>whnf
               repeat' (first|exact trivial|((first|((first|refine hT _ _ ?_|refine hE _ _ _ ?_|refine hN _ _ ?_);clear hN hE hT)|((first|refine hX ?_|refine hY ?_);clear hX hY)|refine kL ?_|(refine ⟨fun hb=>?_,fun hb=>?_⟩<;>(try simp only [nrm] at hb)<;>(try (first|(exfalso;omega)|contradiction|exact kB hb)))|(rw [hD2])|refine kW cfg_ok ?_|refine kC ?_|refine bdA ?_|refine bd2 ?_|refine bdR ?_|refine bdL ?_)<;>((repeat (first|(with_reducible refine evCut fun N hN hE hT=>?_)|(with_reducible refine evBlk fun N hN hE hT=>?_)));(try with_reducible refine evCnd fun X Y hX hY=>?_);(conv=>whnf)))|(refine And.intro ?_ ?_;rotate_left;(conv=>whnf);rotate_right))
               refine callGiveN hsm rfl rfl ?_
               conv=>whnf
               refine ⟨Nat.le_refl _,?_⟩
               conv=>whnf
               refine ⟨Nat.le_refl _,?_⟩
               conv=>whnf
               refine ⟨rfl,?_⟩
               conv=>whnf
               repeat' (first|exact trivial|((first|((first|refine hT _ _ ?_|refine hE _ _ _ ?_|refine hN _ _ ?_);clear hN hE hT)|((first|refine hX ?_|refine hY ?_);clear hX hY)|refine kL ?_|(refine ⟨fun hb=>?_,fun hb=>?_⟩<;>(try simp only [nrm] at hb)<;>(try (first|(exfalso;omega)|contradiction|exact kB hb)))|refine kW cfg_ok ?_|refine kC ?_|refine bdA ?_|refine bd2 ?_|refine bdR ?_|refine bdL ?_)<;>((repeat (first|(with_reducible refine evCut fun N hN hE hT=>?_)|(with_reducible refine evBlk fun N hN hE hT=>?_)));(try with_reducible refine evCnd fun X Y hX hY=>?_);(conv=>whnf)))|(refine And.intro ?_ ?_;rotate_left;(conv=>whnf);rotate_right))
               refine .to (k + 1) hlt (by omega) ?_
               conv=>whnf
               repeat' (first|exact trivial|((first|((first|refine hT _ _ ?_|refine hE _ _ _ ?_|refine hN _ _ ?_);clear hN hE hT)|((first|refine hX ?_|refine hY ?_);clear hX hY)|refine kL ?_|(refine ⟨fun hb=>?_,fun hb=>?_⟩<;>(try simp only [nrm] at hb)<;>(try (first|(exfalso;omega)|contradiction|exact kB hb)))|refine kW cfg_ok ?_|refine kC ?_|refine bdA ?_|refine bd2 ?_|refine bdR ?_|refine bdL ?_)<;>((repeat (first|(with_reducible refine evCut fun N hN hE hT=>?_)|(with_reducible refine evBlk fun N hN hE hT=>?_)));(try with_reducible refine evCnd fun X Y hX hY=>?_);(conv=>whnf)))|(refine And.intro ?_ ?_;rotate_left;(conv=>whnf);rotate_right))
       · obtain rfl : k = nch.length:=by omega
         conv=>whnf
         repeat' (first|exact trivial|((first|((first|refine hT _ _ ?_|refine hE _ _ _ ?_|refine hN _ _ ?_);clear hN hE hT)|((first|refine hX ?_|refine hY ?_);clear hX hY)|refine kL ?_|(refine ⟨fun hb=>?_,fun hb=>?_⟩<;>(try simp only [nrm] at hb)<;>(try (first|(exfalso;omega)|contradiction|exact kB hb)))|refine kA haw ?_|refine kD haw ?_|refine kW cfg_ok ?_|refine kC ?_|refine bdA ?_|refine bd2 ?_|refine bdR ?_|refine bdL ?_)<;>((repeat (first|(with_reducible refine evCut fun N hN hE hT=>?_)|(with_reducible refine evBlk fun N hN hE hT=>?_)));(try with_reducible refine evCnd fun X Y hX hY=>?_);(conv=>whnf)))|(refine And.intro ?_ ?_;rotate_left;(conv=>whnf);rotate_right))
 · generalize smallB base = z1 at *
   generalize smallB other = z2 at *
   generalize smallB now = z3 at *
   cases z1<;>cases z2<;>cases z3
   all_goals first|exact absurd ⟨rfl,rfl,rfl⟩ hS|skip
   all_goals
     refine Api.of_fin cfg_ok Tryz.func9 rfl (nt:=158) rfl rfl ?_
     ((repeat (first|(with_reducible refine evCut fun N hN hE hT=>?_)|(with_reducible refine evBlk fun N hN hE hT=>?_)));(try with_reducible refine evCnd fun X Y hX hY=>?_);(conv=>whnf))
     repeat' (first|exact trivial|((first|((first|refine hT _ _ ?_|refine hE _ _ _ ?_|refine hN _ _ ?_);clear hN hE hT)|((first|refine hX ?_|refine hY ?_);clear hX hY)|refine kL ?_|(refine ⟨fun hb=>?_,fun hb=>?_⟩<;>(try simp only [nrm] at hb)<;>(try (first|(exfalso;omega)|contradiction|exact kB hb)))|refine kA s1 ?_|refine kD s1 ?_|refine kA s2 ?_|refine kD s2 ?_|refine kA s3 ?_|refine kD s3 ?_|refine kA haw ?_|refine kD haw ?_|refine kW cfg_ok ?_|refine kC ?_|refine bdA ?_|refine bd2 ?_|refine bdR ?_|refine bdL ?_)<;>((repeat (first|(with_reducible refine evCut fun N hN hE hT=>?_)|(with_reducible refine evBlk fun N hN hE hT=>?_)));(try with_reducible refine evCnd fun X Y hX hY=>?_);(conv=>whnf)))|(refine And.intro ?_ ?_;rotate_left;(conv=>whnf);rotate_right))
end Go.Proofs.YtaecchphjploaaaGreat
