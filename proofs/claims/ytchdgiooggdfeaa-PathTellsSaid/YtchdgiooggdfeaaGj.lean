/- Ways in rooms; homesteadlaw27.room, awake. -/
import Derived.Test.YtchdgiooggdfeaaGh
import Derived.Test.YtchdgiooggdfeaaGu
import Derived.Test.YtchdgiooggdfeaaGc
import Derived.Test.YtchdgiooggdfeaaGg
set_option linter.unusedSimpArgs false
set_option linter.unusedVariables false
set_option maxRecDepth 100000
set_option maxHeartbeats 16000000
namespace Go.Proofs.Ytchdgiooggdfeaa
open Go Go.RowKit Eng
def atP (p : Player) : Pos:=⟨p.x,p.y⟩
theorem cell_same {w v : Wld} (hR : RW w) (hV : RW v) (hs : v.size = w.size) (hd : v.seed = w.seed) (hc : v.chunks = w.chunks) {a b : Int} (ha : 0 ≤ a ∧ a < 8 * w.size) (hb : 0 ≤ b ∧ b < 8 * w.size) : cellAt v a b = cellAt w a b:=by
 unfold cellAt
 rw [(chunkW_in hV (x:=a / 8) (y:=b / 8) (by omega) (by omega)).1,(chunkW_in hR (x:=a / 8) (y:=b / 8) (by omega) (by omega)).1,hc,hd]
theorem air_same {w v : Wld} (hR : RW w) (hV : RW v) (hs : v.size = w.size) (hd : v.seed = w.seed) (hc : v.chunks = w.chunks) : airW v = airW w:=by
 funext b
 unfold airW
 rw [hs]
 refine propext ⟨fun h=>⟨h.1,h.2.1,h.2.2.1,h.2.2.2.1,?_⟩,fun h=>⟨h.1,h.2.1,h.2.2.1,h.2.2.2.1,?_⟩⟩
 · rw [← cell_same hR hV hs hd hc ⟨h.1,h.2.2.1⟩ ⟨h.2.1,h.2.2.2.1⟩];exact h.2.2.2.2
 · rw [cell_same hR hV hs hd hc ⟨h.1,h.2.2.1⟩ ⟨h.2.1,h.2.2.2.1⟩];exact h.2.2.2.2
structure SameW (w v : Wld) : Prop where
 rw : RW v
 size : v.size = w.size
 seed : v.seed = w.seed
 chunks : v.chunks = w.chunks
theorem SameW.air {w v : Wld} (h : SameW w v) (hR : RW w) : airW v = airW w:=air_same hR h.rw h.size h.seed h.chunks
theorem SameW.trans {u v w : Wld} (h1 : SameW u v) (h2 : SameW v w) : SameW u w:=⟨h2.rw,h2.size.trans h1.size,h2.seed.trans h1.seed,h2.chunks.trans h1.chunks⟩
theorem path_spec {w : Wld} {p : Player} (hp : Here w p) {x y most : Int} (hm : 0 ≤ most ∧ most ≤ 64) (hx : 0 ≤ x ∧ 0 ≤ y ∧ x < 8 * w.size ∧ y < 8 * w.size) :
   ((pathW w p.id x y most).2 = 0 ∧ ∃ d : Nat,d ≤ most.toNat ∧ fst (airW w) ⟨x,y⟩ d (atP p) ∧ ∃ ls,(pathW w p.id x y most).1 = ls.map cmdOf ∧ Told (airW w) ⟨x,y⟩ d (atP p) ls)
   ∨ (pathW w p.id x y most = ([],107) ∧ ∀ d : Nat,d ≤ most.toNat → ¬ fst (airW w) ⟨x,y⟩ d (atP p)):=by
 have hR:=hp.rw
 unfold pathW
 rw [if_neg (by omega),if_neg (by rw [rightW_iff.2 hR];simp),here_player hp]
 dsimp only
 rw [if_neg (by simp),if_neg (not_not_intro hx)]
 by_cases he : p.x = x ∧ p.y = y
 · rw [if_pos he]
   have : atP p = ⟨x,y⟩:=pos_ext he.1 he.2
   rw [this]
   exact .inl ⟨rfl,0,by omega,fst_zero,[],rfl,rfl⟩
 · rw [if_neg he]
   have hne : ¬ atP p = ⟨x,y⟩:=fun h=>he ⟨congrArg Pos.x h,congrArg Pos.y h⟩
   rcases way_spec hR (e:=⟨x,y⟩) (bg:=atP p) hm.1 hne with ⟨h1,h2,d,h3,h4,h5⟩|⟨h1,h2⟩
   · exact .inl ⟨h1,d,h3,h4,h5⟩
   · refine .inr ⟨h1,fun d hd hf=>?_⟩
     rcases h2 with h2|h2
     · cases d with
       | zero=>exact hne hf.1
       | succ d =>
         -- the last step of a way is onto the end
         have : ∀ (n : Nat) (b : Pos),WW (airW w) ⟨x,y⟩ (n + 1) b → airW w ⟨x,y⟩:=by
           intro n
           induction n with
           | zero=>rintro b ⟨s,_,ha,hw⟩;have h : addP b s = ⟨x,y⟩:=hw;rw [h] at ha;exact ha
           | succ n ih=>rintro b ⟨s,_,_,hw⟩;exact ih _ hw
         exact h2 (this d _ hf.1)
     · exact h2 d hd hf
open Go Go.RowKit Eng
open Go Go.RowKit Eng
theorem chunk_put {w : Wld} {k : Chunk} {l : List Player} (hR : RW w) (hk : rightB k = true) (hm : max k.x k.y < w.size) (hn : RW (withP (withCs w (putL w.seed w.chunks k)) l)) : (chunkW (withP (withCs w (putL w.seed w.chunks k)) l) k.x k.y).1 = k:=by
 have hc:=chunk_get (k:=k) hn hk hm
 rw [hc,show (withP (withCs w (putL w.seed w.chunks k)) l).chunks = putL w.seed w.chunks k from rfl,getK_putL hR.rc,if_pos rfl]
 by_cases hp : plainW w.seed k = true
 · rw [if_pos hp];exact (plain_eq hk hp).symm
 · rw [if_neg hp]
open Go Go.RowKit Eng
def roomC (l : List Int) : Chunk:=⟨0,0,l,[],[]⟩
def roomP (x y : Int) : Player:=⟨1,x,y,List.replicate 8 ⟨0,0⟩,-1,[],false⟩
def w11 : Wld:=⟨1,1,0,[],[]⟩
theorem rw11 : RW w11:=rightW_iff.1 (by kernel_rfl)
structure Plainly (l : List Int) : Prop where
 len : l.length = 64
 ok : ∀ i ∈ l,itemOk i = true ∧ i ≠ 9
theorem plain_go : ∀ {l : List Int} (k : Nat),(∀ i ∈ l,itemOk i = true ∧ i ≠ 9) → rightGo l k [] = some []
 | [],k,_=>rfl
 | i :: r,k,h=>by
   obtain ⟨h1,h2⟩:=h i (List.mem_cons_self ..)
   unfold rightGo
   rw [if_pos h1,if_neg h2]
   exact plain_go (k + 1) fun j hj=>h j (List.mem_cons_of_mem _ hj)
theorem room_right {l : List Int} (h : Plainly l) : rightB (roomC l) = true:=by
 unfold rightB
 have h1 : rightGo (roomC l).cells 0 (roomC l).boxes = some []:=plain_go 0 h.ok
 rw [h1]
 have h2 : headB (roomC l) = true:=by
   unfold headB roomC
   simp only [h.len];rfl
 rw [h2];rfl
def roomA (l : List Int) : Wld:=(putW w11 (roomC l)).1
theorem room_put {l : List Int} (h : Plainly l) : putW w11 (roomC l) = (roomA l,0) ∧ RW (roomA l) ∧ (roomA l).size = 1 ∧ (chunkW (roomA l) 0 0).1 = roomC l ∧ (roomA l).players = []:=by
 have hr:=room_right h
 have hm : max (roomC l).x (roomC l).y < w11.size:=(by decide : max (0 : Int) 0 < 1)
 have he:=put_eq rw11 hr hm
 have hA : roomA l = withCs w11 (putL w11.seed w11.chunks (roomC l)):=by unfold roomA;rw [he]
 have hU:=rw_put rw11 hr hm
 refine ⟨by rw [he,hA],by rw [hA];exact hU,by rw [hA];rfl,?_,by rw [hA];rfl⟩
 have h2:=chunk_put (l:=([] : List Player)) rw11 hr hm hU
 rw [hA];exact h2
theorem room_cell {v : Wld} (hs : v.size = 1) {l : List Int} (hc : (chunkW v 0 0).1 = roomC l) {a b : Int} (ha : 0 ≤ a ∧ a < 8) (hb : 0 ≤ b ∧ b < 8) : cellAt v a b = elt .u8 l (b * 8 + a).toNat:=by
 unfold cellAt
 rw [show a / 8 = 0 by omega,show b / 8 = 0 by omega,hc,show b % 8 * 8 + a % 8 = b * 8 + a by omega]
 rfl
def roomW (l : List Int) (x y : Int) : Wld:=(setW (roomA l) (roomP x y)).1
theorem room_set {l : List Int} (h : Plainly l) {x y : Int} (hx : 0 ≤ x ∧ x < 8) (hy : 0 ≤ y ∧ y < 8) : setW (roomA l) (roomP x y) = (roomW l x y,0) ∧ Here (roomW l x y) (roomP x y) ∧ (roomW l x y).size = 1 ∧ (chunkW (roomW l x y) 0 0).1 = roomC l:=by
 obtain ⟨h1,h2,h3,h4,h5⟩:=room_put h
 have hok : setOk (roomA l) (roomP x y):=⟨h2,by rfl,(within_iff h2).2 (by show 0 ≤ x ∧ 0 ≤ y ∧ x < 8 * (roomA l).size ∧ y < 8 * (roomA l).size;rw [h3];omega),.inr (by rw [h5];decide)⟩
 have he:=set_eq hok
 have hW : roomW l x y = withP (roomA l) (setL (roomA l).players (roomP x y)):=by unfold roomW;rw [he]
 have hU:=rw_set hok
 refine ⟨by rw [he,hW],⟨by rw [hW];exact hU,?_⟩,by rw [hW];exact h3,?_⟩
 · rw [hW]
   show getK pid (setL (roomA l).players (roomP x y)) (roomP x y).id = _
   rw [getK_setL h2.rp,if_pos rfl]
 · rw [hW]
   have e1:=(chunkW_in (w:=withP (roomA l) (setL (roomA l).players (roomP x y))) hU (x:=0) (y:=0) ⟨by decide,by show (0 : Int) < (roomA l).size;rw [h3];decide⟩ ⟨by decide,by show (0 : Int) < (roomA l).size;rw [h3];decide⟩).1
   have e2:=(chunkW_in h2 (x:=0) (y:=0) ⟨by decide,by rw [h3];decide⟩ ⟨by decide,by rw [h3];decide⟩).1
   rw [e1,← h4,e2];rfl
theorem room_air {v : Wld} (hs : v.size = 1) {l : List Int} (hc : (chunkW v 0 0).1 = roomC l) (b : Pos) : airW v b ↔ 0 ≤ b.x ∧ 0 ≤ b.y ∧ b.x < 8 ∧ b.y < 8 ∧ elt .u8 l (b.y * 8 + b.x).toNat = 0:=by
 unfold airW
 rw [hs]
 constructor
 · rintro ⟨h1,h2,h3,h4,h5⟩
   rw [room_cell hs hc ⟨h1,by omega⟩ ⟨h2,by omega⟩] at h5
   exact ⟨h1,h2,by omega,by omega,h5⟩
 · rintro ⟨h1,h2,h3,h4,h5⟩
   refine ⟨h1,h2,by omega,by omega,?_⟩
   rw [room_cell hs hc ⟨h1,h3⟩ ⟨h2,h4⟩];exact h5
def air64 : List Int:=List.replicate 64 0
theorem air64_ok : Plainly air64:=⟨by decide,fun i hi=>by rw [List.eq_of_mem_replicate hi];exact ⟨by decide,by decide⟩⟩
open Go Go.RowKit Eng
def cellsN (l : List Int) (j : Nat) : List Int:=(l.take j).foldl (fun c k=>c.set k.toNat 2) air64
theorem cellsN_succ {l : List (El .i64)} {j : Nat} (h : j < l.length) : cellsN l (j + 1) = (cellsN l j).set (elt .i64 l j).toNat 2:=by
 unfold cellsN
 rw [List.take_add_one,elt_get .i64 l j h,Option.toList_some,List.foldl_append]
 rfl
theorem cellsN_len (l : List Int) (j : Nat) : (cellsN l j).length = 64:=by
 have : ∀ (m c : List Int),(m.foldl (fun c (k : Int)=>c.set k.toNat 2) c).length = c.length:=by
   intro m
   induction m with
   | nil=>intro c;rfl
   | cons a r ih=>intro c;rw [List.foldl_cons,ih,List.length_set]
 unfold cellsN;rw [this];rfl
theorem cellsN_ok (l : List Int) (j : Nat) : Plainly (cellsN l j):=by
 refine ⟨cellsN_len l j,?_⟩
 have : ∀ (m c : List Int),(∀ i ∈ c,itemOk i = true ∧ i ≠ 9) → ∀ i ∈ m.foldl (fun c (k : Int)=>c.set k.toNat 2) c,itemOk i = true ∧ i ≠ 9:=by
   intro m
   induction m with
   | nil=>intro c h;exact h
   | cons a r ih =>
     intro c h
     rw [List.foldl_cons]
     refine ih _ fun i hi=>?_
     rcases List.mem_or_eq_of_mem_set hi with h1|h1
     · exact h i h1
     · rw [h1];exact ⟨by decide,by decide⟩
 exact this _ _ air64_ok.ok
def roomS (l : List Int) : List Int:=cellsN l l.length
theorem okW_11 : OkW w11:=okW_rw rw11
theorem room27_api (x y : Int) (l : List (El .i64)) (hx : 0 ≤ x ∧ x < 8) (hy : 0 ≤ y ∧ y < 8) (hl : l.length ≤ 64) (hk : ∀ k ∈ l,0 ≤ k ∧ k < 64) : Api Try.prog 25 [i64 x,i64 y,.vec .i64 l] (.tup [wldV (roomW (roomS l) x y),bol true]):=by
 have hn:=wnew_api 1 1
 rw [show newW 1 1 = (w11,0) by rfl] at hn
 have hc:=wchunk_api w11 0 0 okW_11
 obtain ⟨c1,c2,c3⟩:=chunkW_in rw11 (x:=0) (y:=0) ⟨by decide,by decide⟩ ⟨by decide,by decide⟩
 have c4 : (chunkW w11 0 0).2 = true:=by rw [c1]
 have c5:=chunkW_len c4
 rw [c4] at hc
 have hp:=worldPut_api w11 (roomC (roomS l)) okW_11 (okC_right (room_right (cellsN_ok l l.length))) (fitC_right (room_right (cellsN_ok l l.length)))
 obtain ⟨r1,r2,r3,r4,r5⟩:=room_put (cellsN_ok l l.length)
 rw [show putW w11 (roomC (roomS l)) = (roomA (roomS l),0) from r1] at hp
 have hs:=set_world (roomA (roomS l)) (roomP x y) (okW_rw r2) (by
   refine okP_sound (by rfl))
 obtain ⟨q1,q2,q3,q4⟩:=room_set (cellsN_ok l l.length) hx hy
 rw [show setW (roomA (roomS l)) (roomP x y) = (roomW (roomS l) x y,0) from q1] at hs
 have e1 : chunkV (roomC (roomS l)) = .agg [i64 0,i64 0,.vec .u8 (roomS l),.vec .heap [],.vec .box []]:=rfl
 have e2 : playerV (roomP x y) = .agg [i64 1,i64 x,i64 y,.vec .slot (List.replicate (Int.toNat 8) (dflt .slot)),i64 (-1),.vec .slot [],bol false]:=rfl
 rw [e1] at hp
 rw [e2] at hs
 have hcn:=@cellsN_succ l
 have hcl:=cellsN_len l
 have hc0 : List.replicate (Int.toNat 64) (dflt .u8) = cellsN l 0:=rfl
 have hce : cellsN l l.length = roomS l:=rfl
 generalize (chunkW w11 0 0).1 = C at *
 generalize roomW (roomS l) x y = B at *
 generalize roomA (roomS l) = A at *
 generalize w11 = W at *
 generalize roomS l = RS at *
 generalize cellsN l = G at *
 dsimp only at hn hc hp hs
 clear r1 r2 r3 r4 r5 q1 q2 q3 q4 c1 c4
 replace hp:=api_weak hp (.cons (Le.refl _) (.cons (le_chunk _ _ _) .nil))
 replace hs:=api_weak hs (.cons (Le.refl _) (.cons (Le.agg (.cons (Le.refl _) (.cons (Le.refl _) (.cons (Le.refl _) (.cons (Le.refl _) (.cons (Le.refl _) (.cons (Le.nil _) (.cons (Le.ff rfl) .nil)))))))) .nil))
 refine Api.of_fin cfg_ok Try.func25 rfl (nt:=71) rfl rfl ?_
 conv=>whnf
 repeat' (first|exact trivial|((first|refine kL ?_|(refine ⟨fun hb=>?_,fun hb=>?_⟩<;>(try simp only [nrm] at hb)<;>(try (first|(exfalso;omega)|contradiction|exact kB hb)))|refine kA hn ?_|refine kD hn ?_|refine kA hc ?_|refine kD hc ?_|refine kW cfg_ok ?_|refine kC ?_|refine bdA ?_|refine bd2 ?_|refine bdR ?_|refine bdL ?_)<;>(conv=>whnf))|(refine And.intro ?_ ?_;rotate_left;(conv=>whnf);rotate_right))
 all_goals first|omega|skip
 refine Runs.loopS cfg_ok (σ:=Nat) [0,1,6,8,10,41,42,43] (fun j=>[i64 x,i64 y,.ptr 12 0,.ptr 16 0,.ptr 20 0,.vec .i64 l,i64 l.length,i64 j])
   (fun j=>[(12,.box [i64 0,.lit (.int .u64 0),i64 0,.lit (.slice none 0 0),.lit (.slice none 0 0)]),(16,.box (wldC W)),(20,.box [i64 0,i64 0,.own .u8 75 0 64 none,.lit (.slice none 0 0),.lit (.slice none 0 0)]),(75,.row .u8 (G j))])
   (fun j=>j ≤ l.length) (fun j=>l.length - j) 0 (by omega) ?_ ?_
 · conv=>whnf
   repeat' (first|exact trivial|((first|refine kL ?_|(refine ⟨fun hb=>?_,fun hb=>?_⟩<;>(try simp only [nrm] at hb)<;>(try (first|(exfalso;omega)|contradiction|exact kB hb)))|refine kW cfg_ok ?_|refine kC ?_|refine bdA ?_|refine bd2 ?_|refine bdR ?_|refine bdL ?_)<;>(conv=>whnf))|(refine And.intro ?_ ?_;rotate_left;(conv=>whnf);rotate_right))
   all_goals first|rfl|omega|exact congrArg (Value.int .i64) c2|exact congrArg (Value.int .i64) c3|(rw [hc0];done)|(rw [hc0];exact List.take_of_length_le (by rw [hcl];decide))|(rw [hcl];done)|trace_state
 · intro j hj
   by_cases hlt : j < l.length
   · have hk1:=hk _ (elt_mem (t:=.i64) hlt)
     have hcj:=hcn hlt
     have hlj:=hcl j
     have hk2 : ∀ z : Int,0 ≤ z ∧ z < 64 → Int.toNat z + 0 < (G j).length:=fun z hz=>by rw [hlj];omega
     conv=>whnf
     repeat' (first|exact trivial|((first|refine kL ?_|(refine ⟨fun hb=>?_,fun hb=>?_⟩<;>(try simp only [nrm] at hb)<;>(try (first|(exfalso;omega)|contradiction|exact kB hb)))|refine kW cfg_ok ?_|refine kC ?_|refine bdA ?_|refine bd2 ?_|refine bdR ?_|refine bdL ?_)<;>(conv=>whnf))|(refine And.intro ?_ ?_;rotate_left;(conv=>whnf);rotate_right))
     all_goals first|omega|exact hk1.1|exact hk1.2|exact hk2 _ hk1|skip
     refine .to (j + 1) hlt (by omega) ?_
     conv=>whnf
     repeat' (first|exact trivial|((first|refine kL ?_|(refine ⟨fun hb=>?_,fun hb=>?_⟩<;>(try simp only [nrm] at hb)<;>(try (first|(exfalso;omega)|contradiction|exact kB hb)))|refine kW cfg_ok ?_|refine kC ?_|refine bdA ?_|refine bd2 ?_|refine bdR ?_|refine bdL ?_)<;>(conv=>whnf))|(refine And.intro ?_ ?_;rotate_left;(conv=>whnf);rotate_right))
     all_goals first|rfl|omega|(rw [hcj];done)|(rw [hcj];exact rfl)|(rw [hcj];exact List.take_of_length_le (by rw [List.length_set,hlj];decide))|(rw [hcl];done)|(rw [List.length_set,hlj];done)|trace_state
   · obtain rfl : j = l.length:=by omega
     rw [hce]
     have hlr : RS.length = 64:=by rw [← hce];exact hcl _
     conv=>whnf
     repeat' (first|exact trivial|((first|refine kL ?_|(refine ⟨fun hb=>?_,fun hb=>?_⟩<;>(try simp only [nrm] at hb)<;>(try (first|(exfalso;omega)|contradiction|exact kB hb)))|refine kW cfg_ok ?_|refine kC ?_|refine bdA ?_|refine bd2 ?_|refine bdR ?_|refine bdL ?_)<;>(conv=>whnf))|(refine And.intro ?_ ?_;rotate_left;(conv=>whnf);rotate_right))
     all_goals first|omega|skip
     refine callGiveN hp rfl rfl ?_
     conv=>whnf
     refine ⟨by omega,?_,?_⟩
     · rw [List.drop_zero,List.take_of_length_le (by omega)]
     conv=>whnf
     repeat' (first|exact trivial|((first|refine kL ?_|(refine ⟨fun hb=>?_,fun hb=>?_⟩<;>(try simp only [nrm] at hb)<;>(try (first|(exfalso;omega)|contradiction|exact kB hb)))|refine kW cfg_ok ?_|refine kC ?_|refine bdA ?_|refine bd2 ?_|refine bdR ?_|refine bdL ?_)<;>(conv=>whnf))|(refine And.intro ?_ ?_;rotate_left;(conv=>whnf);rotate_right))
     all_goals first|omega|skip
     refine callGiveND hs rfl rfl ?_
     conv=>whnf
     refine ⟨by decide,rfl,?_⟩
     conv=>whnf
     repeat' (first|exact trivial|((first|refine kL ?_|(refine ⟨fun hb=>?_,fun hb=>?_⟩<;>(try simp only [nrm] at hb)<;>(try (first|(exfalso;omega)|contradiction|exact kB hb)))|refine kW cfg_ok ?_|refine kC ?_|refine bdA ?_|refine bd2 ?_|refine bdR ?_|refine bdL ?_)<;>(conv=>whnf))|(refine And.intro ?_ ?_;rotate_left;(conv=>whnf);rotate_right))
     all_goals first|rfl|omega|trace_state
theorem cmd_ext {a b : Cmd} (h1 : a.dol = b.dol) (h2 : a.a = b.a) (h3 : a.b = b.b) (h4 : a.c = b.c) (h5 : a.n = b.n) : a = b:=by cases a;cases b;simp_all
theorem eqv_len {α : Type} {a b : List α} (h : ¬ a.length = b.length) : eqv a b = false:=eqv_false.2 fun e=>h (congrArg List.length e)
theorem eqv_take {tt : Ty} {a b : List (El tt)} {k : Nat} (h : ¬ elt tt a k = elt tt b k) : eqv a b = false:=eqv_false.2 fun e=>h (by rw [e])
theorem eqv_all {tt : Ty} {a b : List (El tt)} (hl : a.length = b.length) (h : ∀ i < a.length,elt tt a i = elt tt b i) : eqv a b = true:=eqv_iff.2 (elt_ext hl h)
theorem same27_api (a b : List (El .cmd)) (ha : a.length ≤ 9000000000000000000) : Api Try.prog 24 [.vec .cmd a,.vec .cmd b] (bol (eqv a b)):=by
 by_cases hl : a.length = b.length
 · skip
   refine Api.of_fin cfg_ok Try.func24 rfl (nt:=24) rfl rfl ?_
   conv=>whnf
   repeat' (first|exact trivial|((first|refine kL ?_|(refine ⟨fun hb=>?_,fun hb=>?_⟩<;>(try simp only [nrm] at hb)<;>(try (first|(exfalso;omega)|contradiction|exact kB hb)))|refine kW cfg_ok ?_|refine kC ?_|refine bdA ?_|refine bd2 ?_|refine bdR ?_|refine bdL ?_)<;>(conv=>whnf))|(refine And.intro ?_ ?_;rotate_left;(conv=>whnf);rotate_right))
   all_goals try omega
   refine Runs.loopS cfg_ok (σ:=Nat) [0,1,12,13] (fun k=>[.vec .cmd a,.vec .cmd b,i64 a.length,i64 k]) (fun _=>[]) (fun k=>k ≤ a.length ∧ ∀ i < k,elt .cmd a i = elt .cmd b i) (fun k=>a.length - k) 0 ⟨by omega,by omega⟩ ?_ ?_
   · conv=>whnf
     repeat' (first|exact trivial|((first|refine kL ?_|(refine ⟨fun hb=>?_,fun hb=>?_⟩<;>(try simp only [nrm] at hb)<;>(try (first|(exfalso;omega)|contradiction|exact kB hb)))|refine kW cfg_ok ?_|refine kC ?_|refine bdA ?_|refine bd2 ?_|refine bdR ?_|refine bdL ?_)<;>(conv=>whnf))|(refine And.intro ?_ ?_;rotate_left;(conv=>whnf);rotate_right))
   · rintro k ⟨hk,ht⟩
     by_cases hlt : k < a.length
     · conv=>whnf
       repeat' (first|exact trivial|((first|refine kL ?_|(refine ⟨fun hb=>?_,fun hb=>?_⟩<;>(try simp only [nrm] at hb)<;>(try (first|(exfalso;omega)|contradiction|exact kB hb)))|refine kW cfg_ok ?_|refine kC ?_|refine bdA ?_|refine bd2 ?_|refine bdR ?_|refine bdL ?_)<;>(conv=>whnf))|(refine And.intro ?_ ?_;rotate_left;(conv=>whnf);rotate_right))
       · exact congrArg Value.bool (eqv_take (tt:=.cmd) (k:=k) fun e=>by rw [e] at hb;simp at hb)
       · refine .to (k + 1) ⟨by omega,fun i hi=>?_⟩ (by omega) ?_
         · by_cases hik : i = k
           · subst hik;exact cmd_ext (by simp_all) (by simp_all) (by simp_all) (by simp_all) (by simp_all)
           · exact ht i (by omega)
         conv=>whnf
         repeat' (first|exact trivial|((first|refine kL ?_|(refine ⟨fun hb=>?_,fun hb=>?_⟩<;>(try simp only [nrm] at hb)<;>(try (first|(exfalso;omega)|contradiction|exact kB hb)))|refine kW cfg_ok ?_|refine kC ?_|refine bdA ?_|refine bd2 ?_|refine bdR ?_|refine bdL ?_)<;>(conv=>whnf))|(refine And.intro ?_ ?_;rotate_left;(conv=>whnf);rotate_right))
     · obtain rfl : k = a.length:=by omega
       conv=>whnf
       repeat' (first|exact trivial|((first|refine kL ?_|(refine ⟨fun hb=>?_,fun hb=>?_⟩<;>(try simp only [nrm] at hb)<;>(try (first|(exfalso;omega)|contradiction|exact kB hb)))|refine kW cfg_ok ?_|refine kC ?_|refine bdA ?_|refine bd2 ?_|refine bdR ?_|refine bdL ?_)<;>(conv=>whnf))|(refine And.intro ?_ ?_;rotate_left;(conv=>whnf);rotate_right))
       exact congrArg Value.bool (eqv_all (tt:=.cmd) hl ht)
 · skip
   refine Api.of_fin cfg_ok Try.func24 rfl (nt:=24) rfl rfl ?_
   conv=>whnf
   repeat' (first|exact trivial|((first|refine kL ?_|(refine ⟨fun hb=>?_,fun hb=>?_⟩<;>(try simp only [nrm] at hb)<;>(try (first|(exfalso;omega)|contradiction|exact kB hb)))|refine kW cfg_ok ?_|refine kC ?_|refine bdA ?_|refine bd2 ?_|refine bdR ?_|refine bdL ?_)<;>(conv=>whnf))|(refine And.intro ?_ ?_;rotate_left;(conv=>whnf);rotate_right))
   all_goals first|omega|exact congrArg Value.bool (eqv_len hl)
def dotAir (b : Pos) : Prop:=0 ≤ b.x ∧ 0 ≤ b.y ∧ b.x < 8 ∧ b.y < 8 ∧ ¬ (b.x = 3 ∧ b.y = 3)
theorem dot_get {k : Nat} (hk : k < 64) : elt .u8 (roomS [27]) k = if k = 27 then 2 else 0:=by
 show ((air64.set 27 2)[k]?).getD (dflt .u8) = _
 rw [List.getElem?_set]
 by_cases h : k = 27
 · subst h;rfl
 · rw [if_neg (fun e=>h e.symm),if_neg h]
   unfold air64
   rw [List.getElem?_replicate,if_pos hk];rfl
theorem air_dot {v : Wld} (hs : v.size = 1) (hc : (chunkW v 0 0).1 = roomC (roomS [27])) : airW v = dotAir:=by
 funext b
 refine propext ((room_air hs hc b).trans ?_)
 unfold dotAir
 constructor
 · rintro ⟨h1,h2,h3,h4,h5⟩
   rw [dot_get (by omega)] at h5
   refine ⟨h1,h2,h3,h4,fun h=>?_⟩
   rw [if_pos (by omega)] at h5
   cases h5
 · rintro ⟨h1,h2,h3,h4,h5⟩
   refine ⟨h1,h2,h3,h4,?_⟩
   rw [dot_get (by omega),if_neg (by omega)]
theorem fst_first {air : Pos → Prop} {e b : Pos} {n : Nat} (h : WW air e n b) (hf : ∀ m < n,e.x - m ≤ b.x ∧ b.x ≤ e.x + m ∧ e.y - m ≤ b.y ∧ b.y ≤ e.y + m → False) : fst air e n b:=⟨h,fun m hm hw=>hf m hm (WW_near hw)⟩
theorem ad1 : addP (⟨2,3⟩ : Pos) ⟨-1,0⟩ = ⟨1,3⟩:=pos_ext rfl rfl
theorem ad2 : addP (⟨3,2⟩ : Pos) ⟨1,1⟩ = ⟨4,3⟩:=pos_ext rfl rfl
theorem ad3 : addP (⟨2,3⟩ : Pos) ⟨1,-1⟩ = ⟨3,2⟩:=pos_ext rfl rfl
theorem WW_one {air : Pos → Prop} {e b s : Pos} (hs : s ∈ stepsL) (ha : air e) (he : addP b s = e) : WW air e 1 b:=⟨s,hs,by rw [he];exact ha,he⟩
theorem dot_one : fst dotAir ⟨1,3⟩ 1 ⟨2,3⟩:=fst_first (WW_one (s:=⟨-1,0⟩) (by simp [stepsL]) (by unfold dotAir;decide) ad1) fun m hm h=>by dsimp only at h;omega
theorem dot_near : fst dotAir ⟨4,3⟩ 1 ⟨3,2⟩:=fst_first (WW_one (s:=⟨1,1⟩) (by simp [stepsL]) (by unfold dotAir;decide) ad2) fun m hm h=>by dsimp only at h;omega
theorem dot_two : fst dotAir ⟨4,3⟩ 2 ⟨2,3⟩:=fst_first ⟨⟨1,-1⟩,by simp [stepsL],by rw [ad3];unfold dotAir;decide,by rw [ad3];exact dot_near.1⟩ fun m hm h=>by dsimp only at h;omega
theorem told_last {air : Pos → Prop} {e c s : Pos} {k : Nat} (hk : stepsL[k]? = some s) (ha : air e) (he : addP c s = e) (hn : ∀ j s',j < k → stepsL[j]? = some s' → ¬ addP c s' = e) : Told air e 1 c [s]:=
 ⟨s,[],rfl,⟨k,hk,⟨by rw [he];exact ha,by rw [he];exact fst_zero⟩,fun j s' hj hs h=>hn j s' hj hs h.2.1⟩,rfl⟩
theorem told_dot1 : Told dotAir ⟨1,3⟩ 1 ⟨2,3⟩ [⟨-1,0⟩]:=by
 refine told_last (k:=3) rfl (by unfold dotAir;decide) ad1 fun j s' hj hs h=>?_
 have hx : (addP ⟨2,3⟩ s').x = 1:=by rw [h]
 have hy : (addP ⟨2,3⟩ s').y = 3:=by rw [h]
 match j,hj,hs with
 | 0,_,hs=>cases hs;cases hy
 | 1,_,hs=>cases hs;cases hy
 | 2,_,hs=>cases hs;cases hy
theorem told_dot2 : Told dotAir ⟨4,3⟩ 2 ⟨2,3⟩ [⟨1,-1⟩,⟨1,1⟩]:=by
 refine ⟨⟨1,-1⟩,[⟨1,1⟩],rfl,⟨2,rfl,⟨by rw [ad3];unfold dotAir;decide,by rw [ad3];exact dot_near⟩,fun j s' hj hs h=>?_⟩,?_⟩
 · have hw:=WW_near h.2.1
   match j,hj,hs with
   | 0,_,hs=>cases hs;unfold addP at hw;dsimp only at hw;omega
   | 1,_,hs=>cases hs;unfold addP at hw;dsimp only at hw;omega
 · rw [ad3]
   refine told_last (k:=7) rfl (by unfold dotAir;decide) ad2 fun j s' hj hs h=>?_
   have hx : (addP ⟨3,2⟩ s').x = 4:=by rw [h]
   have hy : (addP ⟨3,2⟩ s').y = 3:=by rw [h]
   match j,hj,hs with
   | 0,_,hs=>cases hs;cases hy
   | 1,_,hs=>cases hs;cases hy
   | 2,_,hs=>cases hs;cases hy
   | 3,_,hs=>cases hs;cases hy
   | 4,_,hs=>cases hs;cases hy
   | 5,_,hs=>cases hs;cases hx
   | 6,_,hs=>cases hs;cases hx
theorem dot_paths : pathW (roomW (roomS [27]) 2 3) 1 2 3 9 = ([],0) ∧ pathW (roomW (roomS [27]) 2 3) 1 1 3 9 = ([⟨2,-1,0,0,0⟩],0) ∧ pathW (roomW (roomS [27]) 2 3) 1 4 3 9 = ([⟨2,1,-1,0,0⟩,⟨2,1,1,0,0⟩],0) ∧ pathW (roomW (roomS [27]) 2 3) 1 4 3 1 = ([],107):=by
 obtain ⟨_,q2,q3,q4⟩:=room_set (cellsN_ok [27] 1) (x:=2) (y:=3) (by decide) (by decide)
 have hair:=air_dot q3 q4
 have key : ∀ (x y most : Int) (d : Nat) (ls : List Pos),0 ≤ most ∧ most ≤ 64 → 0 ≤ x ∧ 0 ≤ y ∧ x < 8 ∧ y < 8 → fst dotAir ⟨x,y⟩ d ⟨2,3⟩ → d ≤ most.toNat → Told dotAir ⟨x,y⟩ d ⟨2,3⟩ ls → pathW (roomW (roomS [27]) 2 3) 1 x y most = (ls.map cmdOf,0):=by
   intro x y most d ls hm hx hf hd ht
   rcases path_spec q2 hm (x:=x) (y:=y) (by rw [q3];omega) with ⟨a1,d',a2,a3,l,a4,a5⟩|⟨a1,a2⟩
   · rw [hair] at a3 a5
     obtain rfl:=fst_one a3 hf
     obtain rfl:=told_one a5 ht
     exact Prod.ext a4 a1
   · rw [hair] at a2
     exact absurd hf (a2 d hd)
 refine ⟨key 2 3 9 0 [] (by decide) (by decide) fst_zero (by decide) rfl,key 1 3 9 1 _ (by decide) (by decide) dot_one (by decide) told_dot1,key 4 3 9 2 _ (by decide) (by decide) dot_two (by decide) told_dot2,?_⟩
 rcases path_spec q2 (most:=1) (by decide) (x:=4) (y:=3) (by rw [q3];decide) with ⟨a1,d',a2,a3,l,a4,a5⟩|⟨a1,a2⟩
 · rw [hair] at a3
   have:=fst_one a3 dot_two
   have h1 : (1 : Int).toNat = 1:=rfl
   omega
 · exact a1
theorem awake27_api  : Api Try.prog 21 [] (bol true):=by
 have hr:=room27_api 2 3 [27] (by decide) (by decide) (by decide) (by intro k hk;rw [List.mem_singleton] at hk;rw [hk];decide)
 obtain ⟨_,q2,_,_⟩:=room_set (cellsN_ok [27] 1) (x:=2) (y:=3) (by decide) (by decide)
 have hw:=okW_rw q2.rw
 obtain ⟨d1,d2,d3,d4⟩:=dot_paths
 have p1:=ppath_api (roomW (roomS [27]) 2 3) 1 2 3 9 hw
 have p2:=ppath_api (roomW (roomS [27]) 2 3) 1 1 3 9 hw
 have p3:=ppath_api (roomW (roomS [27]) 2 3) 1 4 3 9 hw
 have p4:=ppath_api (roomW (roomS [27]) 2 3) 1 4 3 1 hw
 rw [d1] at p1
 rw [d2] at p2
 rw [d3] at p3
 rw [d4] at p4
 have s1:=same27_api [⟨2,-1,0,0,0⟩] [⟨2,-1,0,0,0⟩] (by decide)
 have s2:=same27_api [⟨2,1,-1,0,0⟩,⟨2,1,1,0,0⟩] [⟨2,1,-1,0,0⟩,⟨2,1,1,0,0⟩] (by decide)
 rw [eqv_self] at s1 s2
 change Api Try.prog 25 [i64 2,i64 3,.vec .i64 [27]] (.tup [wldV (roomW (roomS [27]) 2 3),bol true]) at hr
 generalize roomW (roomS [27]) 2 3 = B at *
 dsimp only at p1 p2 p3 p4
 clear d1 d2 d3 d4 q2 hw
 refine Api.of_fin cfg_ok Try.func21 rfl (nt:=67) rfl rfl ?_
 conv=>whnf
 repeat' (first|exact trivial|((first|refine kL ?_|(refine ⟨fun hb=>?_,fun hb=>?_⟩<;>(try simp only [nrm] at hb)<;>(try (first|(exfalso;omega)|contradiction|exact kB hb)))|((refine callGive hr rfl rfl ?_;(conv=>whnf);refine ⟨by decide,rfl,?_⟩))|((refine callGive s1 rfl rfl ?_;(conv=>whnf);refine ⟨by decide,rfl,?_⟩))|((refine callGive s2 rfl rfl ?_;(conv=>whnf);refine ⟨by decide,rfl,?_⟩))|refine kA p1 ?_|refine kD p1 ?_|refine kA p2 ?_|refine kD p2 ?_|refine kA p3 ?_|refine kD p3 ?_|refine kA p4 ?_|refine kD p4 ?_|refine kW cfg_ok ?_|refine kC ?_|refine bdA ?_|refine bd2 ?_|refine bdR ?_|refine bdL ?_)<;>(conv=>whnf))|(refine And.intro ?_ ?_;rotate_left;(conv=>whnf);rotate_right))
 all_goals first|omega|rfl|trace_state
end Go.Proofs.Ytchdgiooggdfeaa
