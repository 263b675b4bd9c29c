/- view.Of: what it hands back is new. -/
import Derived.Test.YtaecchphjploaaaGi
import Derived.Test.YtaecchphjploaaaGc
set_option linter.unusedSimpArgs false
set_option linter.unusedVariables false
set_option maxRecDepth 100000
set_option maxHeartbeats 16000000
namespace Go.Proofs.Ytaecchphjploaaa
open Go Go.RowKit Eng
abbrev chunkFV (c : Chunk) : AV:=.agg [i64 c.x,i64 c.y,.fec false .u8 c.cells,.vec .heap c.heaps,.vec .boxF c.boxes]
abbrev playerFV (p : Player) : AV:=.agg [i64 p.id,i64 p.x,i64 p.y,.fec false .slot p.bag,i64 p.wth,.vec .slot p.offer,bol p.agrees]
theorem cloneF_slots (l : List (El .slot)) (hl : l.length * 16 ≤ 140737488355328) : Api Try.prog 45 [.vec .slot l] (.fec false .slot l):=by
 refine Api.of_fin cfg_ok Try.func45 rfl (nt:=7) rfl rfl ?_
 conv=>whnf
 repeat' (first|exact trivial|((first|refine kL ?_|(refine ⟨fun hb=>?_,fun hb=>?_⟩<;>(try simp only [nrm] at hb)<;>(try (first|(exfalso;omega)|contradiction|exact kB hb)))|refine kW cfg_ok ?_|refine kC ?_|refine bdA ?_|refine bd2 ?_|refine bdR ?_|refine bdL ?_)<;>(conv=>whnf))|(refine And.intro ?_ ?_;rotate_left;(conv=>whnf);rotate_right))
 all_goals simp_all
theorem aloneF_api (p : Player) (hp : OkP p) : Api Try.prog 80 [playerV p] (playerFV p):=by
 have h1:=hp.nb
 have h2:=hp.no
 refine Api.of_fin cfg_ok Try.func80 rfl (nt:=11) rfl rfl ?_
 conv=>whnf
 repeat' (first|exact trivial|((first|refine kL ?_|(refine ⟨fun hb=>?_,fun hb=>?_⟩<;>(try simp only [nrm] at hb)<;>(try (first|(exfalso;omega)|contradiction|exact kB hb)))|(refine isE 45 ?_;refine kA (cloneF_slots p.bag (by omega)) ?_)|(refine isD 45 ?_;refine kD (cloneF_slots p.bag (by omega)) ?_)|(refine isE 45 ?_;refine kA (cloneV_slots p.offer (by omega)) ?_)|(refine isD 45 ?_;refine kD (cloneV_slots p.offer (by omega)) ?_)|refine kW cfg_ok ?_|refine kC ?_|refine bdA ?_|refine bd2 ?_|refine bdR ?_|refine bdL ?_)<;>(conv=>whnf))|(refine And.intro ?_ ?_;rotate_left;(conv=>whnf);rotate_right))
theorem mix_elt {l n : List Box} {k : Nat} (h : l.length = n.length) (hk : k < l.length) : elt .boxM (mixF k l n) k = (false,elt .box l k):=by
 have h1:=mixF_get h hk
 have h2:=elt_get .box l k hk
 rw [List.getElem?_eq_getElem hk] at h2
 have h4 : (mixF k l n)[k]? = some (elt .boxM (mixF k l n) k):=elt_get .boxM (mixF k l n) k (by rw [mixF_len h];exact hk)
 have h3 : some (elt .boxM (mixF k l n) k) = some (false,elt .box l k):=by rw [← h4,h1,Option.some.inj h2]
 exact Option.some.inj h3
theorem mix_set {l : List Box} {k : Nat} (hk : k < l.length) : (mixF k l l).set k (true,(⟨(elt .box l k).cell,(elt .box l k).bag⟩ : Box)) = mixF (k + 1) l l:=by
 have h2:=elt_get .box l k hk
 rw [List.getElem?_eq_getElem hk] at h2
 have h3 : (⟨(elt .box l k).cell,(elt .box l k).bag⟩ : Box) = l[k]:=by rw [Option.some.inj h2]
 rw [h3]
 exact mixF_set rfl hk
abbrev chunkM (c : Chunk) (a b d : Nat) : List AV:=[i64 c.x,i64 c.y,.own .u8 a 0 c.cells.length none,.own .heap b 0 c.heaps.length none,.own .boxM d 0 c.boxes.length none]
abbrev rowsM (c : Chunk) (k : Nat) (a b d : Nat) : Mem:=[(a,.row .u8 c.cells),(b,.row .heap c.heaps),(d,.row .boxM (mixF k c.boxes c.boxes))]
theorem wownF_api (c : Chunk) (hc : FitC c) : Api Try.prog 85 [chunkV c] (chunkFV c):=by
 have h1:=hc.cells
 have h2:=hc.heaps
 have h3:=hc.boxes
 refine Api.of_fin cfg_ok Try.func85 rfl (nt:=35) rfl rfl ?_
 conv=>whnf
 repeat' (first|exact trivial|((first|refine kL ?_|(refine ⟨fun hb=>?_,fun hb=>?_⟩<;>(try simp only [nrm] at hb)<;>(try (first|(exfalso;omega)|contradiction|exact kB hb)))|(refine isE 69 ?_;refine kE (clone_items _ (by omega)) [(390001,150001)] rfl ?_)|(refine isD 69 ?_;refine kF (clone_items _ (by omega)) [(390001,150001)] rfl ?_)|(refine isE 70 ?_;refine kE (clone_heaps _ (by omega)) [(390001,150003)] rfl ?_)|(refine isD 70 ?_;refine kF (clone_heaps _ (by omega)) [(390001,150003)] rfl ?_)|(refine isE 71 ?_;refine kE (clone_boxes _ (by omega)) [(390001,150005)] rfl ?_)|(refine isD 71 ?_;refine kF (clone_boxes _ (by omega)) [(390001,150005)] rfl ?_)|refine kW cfg_ok ?_|refine kC ?_|refine bdA ?_|refine bd2 ?_|refine bdR ?_|refine bdL ?_)<;>(conv=>whnf))|(refine And.intro ?_ ?_;rotate_left;(conv=>whnf);rotate_right))
 refine Runs.mix 150005 ?_
 refine Runs.loopS cfg_ok (σ:=Nat) [1,2,18,19] (fun k=>[.ptr 2 0,.ptr 4 0,i64 c.boxes.length,i64 k]) (fun k=>(2,.box (chunkM c 150001 150003 150005)) :: (4,.box (chunkC ⟨0,0,[],[],[]⟩)) :: rowsM c k 150001 150003 150005) (fun k=>k ≤ c.boxes.length) (fun k=>c.boxes.length - k) 0 (by omega) ?_ ?_
 · conv=>whnf
   repeat' (first|exact trivial|((first|refine kL ?_|(refine ⟨fun hb=>?_,fun hb=>?_⟩<;>(try simp only [nrm] at hb)<;>(try (first|(exfalso;omega)|contradiction|exact kB hb)))|refine kW cfg_ok ?_|refine kC ?_|refine bdA ?_|refine bd2 ?_|refine bdR ?_|refine bdL ?_)<;>(conv=>whnf))|(refine And.intro ?_ ?_;rotate_left;(conv=>whnf);rotate_right))
   all_goals first|rfl|omega|exact List.take_length|(rw [List.length_map];exact Nat.le_refl _)|exact (List.take_of_length_le (by simp)).trans (mixF_zero _ _).symm|trace_state
 · intro k hk
   by_cases hlt : k < c.boxes.length
   · have hbk:=hc.bags _ (elt_mem (t:=.box) hlt)
     have he:=mix_elt (l:=c.boxes) (n:=c.boxes) rfl hlt
     have he2 : elt .boxM (mixF k c.boxes c.boxes) (((k : Nat) : Int).toNat + 0) = (false,elt .box c.boxes k):=he
     have hml:=mixF_len (i:=k) (l:=c.boxes) (n:=c.boxes) rfl
     have hms:=mix_set hlt
     conv=>whnf
     repeat' (first|exact trivial|((first|refine kL ?_|(refine ⟨fun hb=>?_,fun hb=>?_⟩<;>(try simp only [nrm] at hb)<;>(try (first|(exfalso;omega)|contradiction|exact kB hb)))|(rw [he2])|(refine isE 45 ?_;refine kA (cloneF_slots (elt .box c.boxes k).bag (by omega)) ?_)|(refine isD 45 ?_;refine kD (cloneF_slots (elt .box c.boxes k).bag (by omega)) ?_)|refine kW cfg_ok ?_|refine kC ?_|refine bdA ?_|refine bd2 ?_|refine bdR ?_|refine bdL ?_)<;>(conv=>whnf))|(refine And.intro ?_ ?_;rotate_left;(conv=>whnf);rotate_right))
     all_goals try (first|omega|(rw [hml];omega))
     refine .to (k + 1) hlt (by omega) ?_
     conv=>whnf
     repeat' (first|exact trivial|((first|refine kL ?_|(refine ⟨fun hb=>?_,fun hb=>?_⟩<;>(try simp only [nrm] at hb)<;>(try (first|(exfalso;omega)|contradiction|exact kB hb)))|refine kW cfg_ok ?_|refine kC ?_|refine bdA ?_|refine bd2 ?_|refine bdR ?_|refine bdL ?_)<;>(conv=>whnf))|(refine And.intro ?_ ?_;rotate_left;(conv=>whnf);rotate_right))
     all_goals first|rfl|omega|exact List.take_length|exact (List.take_of_length_le (by rw [List.length_set,hml];exact Nat.le_refl _)).trans hms|trace_state
   · obtain rfl : k = c.boxes.length:=by omega
     have hma:=mixF_all (l:=c.boxes) (n:=c.boxes) rfl
     conv=>whnf
     repeat' (first|exact trivial|((first|refine kL ?_|(refine ⟨fun hb=>?_,fun hb=>?_⟩<;>(try simp only [nrm] at hb)<;>(try (first|(exfalso;omega)|contradiction|exact kB hb)))|refine kW cfg_ok ?_|refine kC ?_|refine bdA ?_|refine bd2 ?_|refine bdR ?_|refine bdL ?_)<;>(conv=>whnf))|(refine And.intro ?_ ?_;rotate_left;(conv=>whnf);rotate_right))
     all_goals first|rfl|omega|exact List.take_length|(rw [Nat.zero_add,mixF_len rfl];exact Nat.le_refl _)|exact (congrArg (List.take _) hma).trans (List.take_of_length_le (by simp))|trace_state
theorem genchunkF_api (seed x y : Int) (hx : 0 ≤ x) (hx2 : x ≤ 15) (hy : 0 ≤ y) (hy2 : y ≤ 15) : Api Try.prog 86 [.lit (.int .u64 seed),i64 x,i64 y] (chunkFV (genC seed x y)):=by
 refine Api.of_fin cfg_ok Try.func86 rfl (nt:=24) rfl rfl ?_
 conv=>whnf
 repeat' (first|exact trivial|((first|refine kL ?_|(refine ⟨fun hb=>?_,fun hb=>?_⟩<;>(try simp only [nrm] at hb)<;>(try (first|(exfalso;omega)|contradiction|exact kB hb)))|(refine isE 104 ?_;refine kE (each_ev seed x y x y hx hx2 hy hy2) [(0,14),(2,6),(390001,150001)] rfl ?_)|(refine isD 104 ?_;refine kF (each_ev seed x y x y hx hx2 hy hy2) [(0,14),(2,6),(390001,150001)] rfl ?_)|refine kW cfg_ok ?_|refine kC ?_|refine bdA ?_|refine bd2 ?_|refine bdR ?_|refine bdL ?_)<;>(conv=>whnf))|(refine And.intro ?_ ?_;rotate_left;(conv=>whnf);rotate_right))
 all_goals first|omega|(rw [gl_len];omega)|(rw [gl_len];exact Nat.le_refl _)|(refine gl_take _ _ _ _ _ ?_;omega)|trace_state
open Go Go.RowKit Eng
def cfgV : Cfg2:={ cfg with ty:=fun e=>match e with
   | 26=>some .chunkF
   | e=>cfg.ty e }
theorem cfgV_ok : Cfg2Ok Try.prog cfgV where
 mixed:=cfg_ok.mixed
 zr:=by
   intro e t h
   simp only [cfgV] at h
   split at h
   · cases h;kernel_rfl
   · exact cfg_ok.zr _ _ h
 sz:=by
   intro e t h
   simp only [cfgV] at h
   split at h
   · cases h;exact ⟨by kernel_rfl,by kernel_rfl⟩
   · exact cfg_ok.sz _ _ h
 pk:=cfg_ok.pk
 eq:=cfg_ok.eq
 call:=cfg_ok.call
 over:=cfg_ok.over
abbrev viewFV (v : Viw) : AV:=.agg [i64 v.tick,i64 v.me.id,i64 v.me.x,i64 v.me.y,.fec false .slot v.me.bag,i64 v.me.wth,.vec .slot v.me.offer,bol v.me.agrees,.vec .chunkF v.chunks,.vec .seen v.others]
abbrev viewOF (t : Int) (p : Player) (a n : Nat) (b m : Nat) : List AV:=[i64 t,i64 p.id,i64 p.x,i64 p.y,.fec false .slot p.bag,i64 p.wth,.vec .slot p.offer,bol p.agrees,.own .chunkF a 0 n none,.own .seen b 0 m none]
theorem wchunkF_api (w : Wld) (x y : Int) (hw : OkW w) : Api Try.prog 51 [wldV w,i64 x,i64 y] (.tup [chunkFV (chunkW w x y).1,bol (chunkW w x y).2]):=by
 have hnc:=hw.nc
 have hrt:=rightW_api w hw
 have hfi:=wfind_api w x y (by omega)
 have hgo : ∀ b : Bool,insideW w.size x y = b → b = true → 0 ≤ min x y ∧ max x y < w.size:=by
   intro b hb hb2
   subst hb
   simp only [insideW,Bool.and_eq_true,decide_eq_true_eq] at hb2
   exact hb2
 cases hI : insideW w.size x y with
 | false =>
   have hs : chunkW w x y = (atC 0 0,false):=by unfold chunkW;rw [if_pos (.inl hI)]
   rw [hs]
   have hn : ¬ (0 ≤ min x y ∧ max x y < w.size):=by
     intro h
     simp only [insideW,Bool.and_eq_false_iff,decide_eq_false_iff_not] at hI
     omega
   refine Api.of_fin cfg_ok Try.func51 rfl (nt:=44) rfl rfl ?_
   conv=>whnf
   repeat' (first|exact trivial|((first|refine kL ?_|(refine ⟨fun hb=>?_,fun hb=>?_⟩<;>(try simp only [nrm] at hb)<;>(try (first|(exfalso;omega)|contradiction|exact kB hb)))|refine kA hrt ?_|refine kD hrt ?_|refine kA hfi ?_|refine kD hfi ?_|refine kW cfg_ok ?_|refine kC ?_|refine bdA ?_|refine bd2 ?_|refine bdR ?_|refine bdL ?_)<;>(conv=>whnf))|(refine And.intro ?_ ?_;rotate_left;(conv=>whnf);rotate_right))
   all_goals first|omega|trace_state
 | true =>
   have hin:=hgo true hI rfl
   cases hR : rightW w with
   | false =>
     rw [hR] at hrt
     have hs : chunkW w x y = (atC 0 0,false):=by unfold chunkW;rw [if_pos (.inr hR)]
     rw [hs]
     refine Api.of_fin cfg_ok Try.func51 rfl (nt:=44) rfl rfl ?_
     conv=>whnf
     repeat' (first|exact trivial|((first|refine kL ?_|(refine ⟨fun hb=>?_,fun hb=>?_⟩<;>(try simp only [nrm] at hb)<;>(try (first|(exfalso;omega)|contradiction|exact kB hb)))|refine kA hrt ?_|refine kD hrt ?_|refine kA hfi ?_|refine kD hfi ?_|refine kW cfg_ok ?_|refine kC ?_|refine bdA ?_|refine bd2 ?_|refine bdR ?_|refine bdL ?_)<;>(conv=>whnf))|(refine And.intro ?_ ?_;rotate_left;(conv=>whnf);rotate_right))
     all_goals first|omega|trace_state
   | true =>
     rw [hR] at hrt
     obtain ⟨_,_,hs1,hs2⟩:=rightW_players hR
     cases hF : fdC w.chunks x y with
     | false =>
       rw [hF] at hfi
       have hs : chunkW w x y = (genC w.seed x y,true):=by unfold chunkW;rw [if_neg (by rw [hI,hR];simp),if_neg (by rw [hF];simp)]
       rw [hs]
       refine Api.of_fin cfg_ok Try.func51 rfl (nt:=44) rfl rfl ?_
       conv=>whnf
       repeat' (first|exact trivial|((first|refine kL ?_|(refine ⟨fun hb=>?_,fun hb=>?_⟩<;>(try simp only [nrm] at hb)<;>(try (first|(exfalso;omega)|contradiction|exact kB hb)))|refine kA hrt ?_|refine kD hrt ?_|refine kA hfi ?_|refine kD hfi ?_|(refine isE 86 ?_;refine kA (genchunkF_api w.seed x y (by omega) (by omega) (by omega) (by omega)) ?_)|(refine isD 86 ?_;refine kD (genchunkF_api w.seed x y (by omega) (by omega) (by omega) (by omega)) ?_)|refine kW cfg_ok ?_|refine kC ?_|refine bdA ?_|refine bd2 ?_|refine bdR ?_|refine bdL ?_)<;>(conv=>whnf))|(refine And.intro ?_ ?_;rotate_left;(conv=>whnf);rotate_right))
       all_goals first|omega|rfl|trace_state
     | true =>
       rw [hF] at hfi
       have hlt : bsC w.chunks x y < w.chunks.length:=by
         unfold fdC at hF
         simp only [Bool.and_eq_true,decide_eq_true_eq] at hF
         exact hF.1
       have hmem:=List.mem_of_getElem? (elt_get .chunk w.chunks _ hlt)
       have hs : chunkW w x y = (elt .chunk w.chunks (bsC w.chunks x y),true):=by unfold chunkW;rw [if_neg (by rw [hI,hR];simp),if_pos hF]
       rw [hs]
       have hown:=wownF_api _ (hw.fit _ hmem)
       refine Api.of_fin cfg_ok Try.func51 rfl (nt:=44) rfl rfl ?_
       conv=>whnf
       repeat' (first|exact trivial|((first|refine kL ?_|(refine ⟨fun hb=>?_,fun hb=>?_⟩<;>(try simp only [nrm] at hb)<;>(try (first|(exfalso;omega)|contradiction|exact kB hb)))|refine kA hrt ?_|refine kD hrt ?_|refine kA hfi ?_|refine kD hfi ?_|refine kA hown ?_|refine kD hown ?_|refine kW cfg_ok ?_|refine kC ?_|refine bdA ?_|refine bd2 ?_|refine bdR ?_|refine bdL ?_)<;>(conv=>whnf))|(refine And.intro ?_ ?_;rotate_left;(conv=>whnf);rotate_right))
       all_goals first|omega|rfl|trace_state
theorem wplayerF_api (w : Wld) (id : Int) (hw : OkW w) : Api Try.prog 49 [wldV w,i64 id] (.tup [playerFV (playerW w id).1,bol (playerW w id).2]):=by
 have hnp:=hw.np
 have hrt:=rightW_api w hw
 have hsk:=seek_api w id (by omega)
 cases hR : rightW w with
 | false =>
   rw [hR] at hrt
   have hs : playerW w id = (zeroP,false):=by unfold playerW;rw [if_pos hR]
   rw [hs]
   refine Api.of_fin cfg_ok Try.func49 rfl (nt:=25) rfl rfl ?_
   conv=>whnf
   repeat' (first|exact trivial|((first|refine kL ?_|(refine ⟨fun hb=>?_,fun hb=>?_⟩<;>(try simp only [nrm] at hb)<;>(try (first|(exfalso;omega)|contradiction|exact kB hb)))|refine kA hrt ?_|refine kD hrt ?_|refine kA hsk ?_|refine kD hsk ?_|refine kW cfg_ok ?_|refine kC ?_|refine bdA ?_|refine bd2 ?_|refine bdR ?_|refine bdL ?_)<;>(conv=>whnf))|(refine And.intro ?_ ?_;rotate_left;(conv=>whnf);rotate_right))
   all_goals first|rfl|trace_state
 | true =>
   rw [hR] at hrt
   obtain ⟨hri,_,_,_⟩:=rightW_players hR
   obtain ⟨e1,e2⟩:=bsP_rises hri id
   rw [e1,e2] at hsk
   cases hg : getK pid w.players id with
   | none =>
     rw [hg] at hsk
     have hs : playerW w id = (zeroP,false):=by unfold playerW;rw [if_neg (by rw [hR];simp),hg]
     rw [hs]
     refine Api.of_fin cfg_ok Try.func49 rfl (nt:=25) rfl rfl ?_
     conv=>whnf
     repeat' (first|exact trivial|((first|refine kL ?_|(refine ⟨fun hb=>?_,fun hb=>?_⟩<;>(try simp only [nrm] at hb)<;>(try (first|(exfalso;omega)|contradiction|exact kB hb)))|refine kA hrt ?_|refine kD hrt ?_|refine kA hsk ?_|refine kD hsk ?_|refine kW cfg_ok ?_|refine kC ?_|refine bdA ?_|refine bd2 ?_|refine bdR ?_|refine bdL ?_)<;>(conv=>whnf))|(refine And.intro ?_ ?_;rotate_left;(conv=>whnf);rotate_right))
     all_goals first|rfl|trace_state
   | some p =>
     rw [hg] at hsk
     have hs : playerW w id = (p,true):=by unfold playerW;rw [if_neg (by rw [hR];simp),hg]
     rw [hs]
     obtain ⟨h1,h2⟩:=lbK_lt hri hg
     have h3 : elt .player w.players (lbK pid id w.players) = p:=by
       have:=elt_get .player w.players _ h1
       rw [h2] at this
       exact (Option.some.inj this).symm
     have hal:=aloneF_api p (hw.players p (getK_mem hg).1)
     generalize lbK pid id w.players = at_ at *
     subst h3
     refine Api.of_fin cfg_ok Try.func49 rfl (nt:=25) rfl rfl ?_
     conv=>whnf
     repeat' (first|exact trivial|((first|refine kL ?_|(refine ⟨fun hb=>?_,fun hb=>?_⟩<;>(try simp only [nrm] at hb)<;>(try (first|(exfalso;omega)|contradiction|exact kB hb)))|refine kA hrt ?_|refine kD hrt ?_|refine kA hsk ?_|refine kD hsk ?_|refine kA hal ?_|refine kD hal ?_|refine kW cfg_ok ?_|refine kC ?_|refine bdA ?_|refine bd2 ?_|refine bdR ?_|refine bdL ?_)<;>(conv=>whnf))|(refine And.intro ?_ ?_;rotate_left;(conv=>whnf);rotate_right))
     all_goals first|omega|rfl|trace_state
abbrev playerTC (p : Player) : List AV:=[i64 p.id,i64 p.x,i64 p.y,.sl,i64 p.wth,.vec .slot p.offer,bol p.agrees]
theorem sight2T_ev (p : Player) (r x y : Int) (hx : 0 ≤ p.x ∧ p.x ≤ 1000) (hy : 0 ≤ p.y ∧ p.y ≤ 1000) (h1 : -1000 ≤ x ∧ x ≤ 1000) (h2 : -1000 ≤ y ∧ y ≤ 1000) : Ev1 Try.prog 83 [i64 x,i64 y,.ptr 0 0,.ptr 2 0] [(0,.box [.clo (.func 82) [] [.ptr 4 0]]),(2,.box (playerTC p)),(4,.box [i64 r])] (bol (seesB p r x y)) [(0,.box [.clo (.func 82) [] [.ptr 4 0]]),(2,.box (playerTC p)),(4,.box [i64 r])]:=by
 have s1:=sight1_ev (p.x / 8) x r (by omega) h1
 have s2:=sight1_ev (p.y / 8) y r (by omega) h2
 unfold seesB
 cases e1 : nearB (p.x / 8) x r
 all_goals
   cases e2 : nearB (p.y / 8) y r
   all_goals
     rw [e1] at s1
     rw [e2] at s2
     refine Ev1.of_fin cfg_ok Try.func83 rfl (nt:=17) rfl rfl rfl ?_
     conv=>whnf
     repeat' (first|exact trivial|((first|refine kL ?_|(refine ⟨fun hb=>?_,fun hb=>?_⟩<;>(try simp only [nrm] at hb)<;>(try (first|(exfalso;omega)|contradiction|exact kB hb)))|refine kE s1 [(0,4)] rfl ?_|refine kF s1 [(0,4)] rfl ?_|refine kE s2 [(0,4)] rfl ?_|refine kF s2 [(0,4)] rfl ?_|refine kW cfg_ok ?_|refine kC ?_|refine bdA ?_|refine bd2 ?_|refine bdR ?_|refine bdL ?_)<;>(conv=>whnf))|(refine And.intro ?_ ?_;rotate_left;(conv=>whnf);rotate_right))
 all_goals first|rfl|trace_state
abbrev sightMT (p : Player) (r : Int) (a b c : Nat) : Mem:=[(a,.box [.clo (.func 82) [] [.ptr c 0]]),(b,.box (playerTC p)),(c,.box [i64 r])]
theorem sightT_ev (p : Player) (r : Int) : Ev1 Try.prog 50 [.agg (playerTC p),i64 r] [] (sightF 390001 390003) (sightMT p r 390001 390003 390005):=by
 refine Ev1.of_finR cfg_ok Try.func50 rfl [(200010,390001),(200004,390003),(200006,390005)] (nt:=6) rfl ?_
 conv=>whnf
 repeat' (first|exact trivial|((first|refine kL ?_|(refine ⟨fun hb=>?_,fun hb=>?_⟩<;>(try simp only [nrm] at hb)<;>(try (first|(exfalso;omega)|contradiction|exact kB hb)))|refine kW cfg_ok ?_|refine kC ?_|refine bdA ?_|refine bd2 ?_|refine bdR ?_|refine bdL ?_)<;>(conv=>whnf))|(refine And.intro ?_ ?_;rotate_left;(conv=>whnf);rotate_right))
 all_goals first|rfl|trace_state
theorem viewOfF_api (w : Wld) (id r : Int) (hw : OkW w) : Api Try.prog 19 [wldV w,i64 id,i64 r] (.tup [viewFV (ofW w id r).1,i64 (ofW w id r).2]):=by
 have hrt:=rightW_api w hw
 have hpl:=wplayerF_api w id hw
 have hnp:=hw.np
 by_cases hr : r < 0 ∨ 3 < r
 · have hs : ofW w id r = (zeroV,2):=by unfold ofW;rw [if_pos hr]
   rw [hs]
   refine Api.of_fin cfgV_ok Try.func19 rfl (nt:=108) rfl rfl ?_
   conv=>whnf
   repeat' (first|exact trivial|((first|refine kL ?_|(refine ⟨fun hb=>?_,fun hb=>?_⟩<;>(try simp only [nrm] at hb)<;>(try (first|(exfalso;omega)|contradiction|exact kB hb)))|refine kA hrt ?_|refine kD hrt ?_|refine kA hpl ?_|refine kD hpl ?_|refine kW cfgV_ok ?_|refine kC ?_|refine bdA ?_|refine bd2 ?_|refine bdR ?_|refine bdL ?_)<;>(conv=>whnf))|(refine And.intro ?_ ?_;rotate_left;(conv=>whnf);rotate_right))
   all_goals first|omega|rfl|trace_state
 · cases hR : rightW w with
   | false =>
     rw [hR] at hrt
     have hs : ofW w id r = (zeroV,113):=by unfold ofW;rw [if_neg hr,if_pos hR]
     rw [hs]
     refine Api.of_fin cfgV_ok Try.func19 rfl (nt:=108) rfl rfl ?_
     conv=>whnf
     repeat' (first|exact trivial|((first|refine kL ?_|(refine ⟨fun hb=>?_,fun hb=>?_⟩<;>(try simp only [nrm] at hb)<;>(try (first|(exfalso;omega)|contradiction|exact kB hb)))|refine kA hrt ?_|refine kD hrt ?_|refine kA hpl ?_|refine kD hpl ?_|refine kW cfgV_ok ?_|refine kC ?_|refine bdA ?_|refine bd2 ?_|refine bdR ?_|refine bdL ?_)<;>(conv=>whnf))|(refine And.intro ?_ ?_;rotate_left;(conv=>whnf);rotate_right))
     all_goals first|omega|rfl|trace_state
   | true =>
     rw [hR] at hrt
     have hRW:=rightW_iff.1 hR
     have hsz:=hRW.size
     cases hP : (playerW w id).2 with
     | false =>
       rw [hP] at hpl
       have hs : ofW w id r = (zeroV,110):=by unfold ofW;rw [if_neg hr,if_neg (by rw [hR];simp),if_pos hP]
       rw [hs]
       refine Api.of_fin cfgV_ok Try.func19 rfl (nt:=108) rfl rfl ?_
       conv=>whnf
       repeat' (first|exact trivial|((first|refine kL ?_|(refine ⟨fun hb=>?_,fun hb=>?_⟩<;>(try simp only [nrm] at hb)<;>(try (first|(exfalso;omega)|contradiction|exact kB hb)))|refine kA hrt ?_|refine kD hrt ?_|refine kA hpl ?_|refine kD hpl ?_|refine kW cfgV_ok ?_|refine kC ?_|refine bdA ?_|refine bd2 ?_|refine bdR ?_|refine bdL ?_)<;>(conv=>whnf))|(refine And.intro ?_ ?_;rotate_left;(conv=>whnf);rotate_right))
       all_goals first|omega|rfl|trace_state
     | true =>
       rw [hP] at hpl
       have hs : ofW w id r = (⟨w.tick,(playerW w id).1,rowsV w (playerW w id).1 r w.size.toNat w.size.toNat,othV w.players (playerW w id).1 r id w.players.length⟩,0):=by unfold ofW;rw [if_neg hr,if_neg (by rw [hR];simp),if_neg (by rw [hP];simp)]
       rw [hs]
       have hmem : (playerW w id).1 ∈ w.players:=by
         unfold playerW at hP ⊢
         rw [if_neg (by rw [hR];simp)] at hP ⊢
         split
         · rename_i p hg;exact (getK_mem hg).1
         · rename_i hg;rw [hg] at hP;simp at hP
       have hpb:=within_bd hRW hmem
       generalize (playerW w id).1 = p at *
       obtain ⟨S,hS⟩ : ∃ S : Nat,w.size = S:=⟨w.size.toNat,by omega⟩
       rw [hS,Int.toNat_natCast]
       have hsi:=sightT_ev p r
       have hch : ∃ G : Nat → Nat → Chunk,(∀ x y : Nat,G x y = (chunkW w (x : Nat) (y : Nat)).1) ∧ ∀ x y : Nat,x < S → y < S → Api Try.prog 51 [wldV w,i64 (x : Nat),i64 (y : Nat)] (.tup [chunkFV (G x y),bol true]):=
         ⟨fun x y=>(chunkW w (x : Nat) (y : Nat)).1,fun x y=>rfl,fun x y hx hy=>by
           have h:=wchunkF_api w (x : Nat) (y : Nat) hw
           rw [show (chunkW w (x : Nat) (y : Nat)).2 = true by rw [(chunkW_in hRW (x:=x) (y:=y) (by omega) (by omega)).1]] at h
           exact h⟩
       obtain ⟨G,hG,hch⟩:=hch
       have hF : ∃ F : Nat → Nat → List Chunk,(∀ y,F y 0 = rowsV w p r S y) ∧ (∀ y,F y S = rowsV w p r S (y + 1)) ∧ (∀ y x : Nat,seesB p r (x : Nat) (y : Nat) = true → F y (x + 1) = F y x ++ [G x y]) ∧ (∀ y x : Nat,seesB p r (x : Nat) (y : Nat) = false → F y (x + 1) = F y x) ∧ (∀ y x : Nat,y ≤ S → x ≤ S → (F y x).length ≤ 272):=
         ⟨accV w p r S,fun y=>accV_zero w p r S y,fun y=>accV_end w p r S y,fun y x h=>by rw [accV_yes h,hG],fun y x h=>accV_no h,fun y x hy hx=>rowsV_bd w p r (s:=S) (y:=y) (k:=x) (by omega) (by omega) hx⟩
       obtain ⟨F,f0,f1,f2,f3,f4⟩:=hF
       have hRl : ∀ y,(rowsV w p r S y).length ≤ y * S:=rowsV_len w p r S
       have hO : ∃ O : Nat → List Seen,O 0 = [] ∧ (∀ k,k < w.players.length → O (k + 1) = O k ++ (if othB p r id (elt .player w.players k) = true then [seenP (elt .player w.players k)] else [])) ∧ (∀ k,(O k).length ≤ w.players.length) ∧ O w.players.length = othV w.players p r id w.players.length:=
         ⟨othV w.players p r id,rfl,fun k hk=>othV_succ hk,fun k=>othV_len w.players p r id k,rfl⟩
       obtain ⟨O,o0,o1,o2,o3⟩:=hO
       rw [← o3]
       have hR0 : rowsV w p r S 0 = []:=rfl
       generalize rowsV w p r S = R at *
       clear o3 hG
       refine Api.of_fin cfgV_ok Try.func19 rfl (nt:=108) rfl rfl ?_
       conv=>whnf
       repeat' (first|exact trivial|((first|refine kL ?_|(refine ⟨fun hb=>?_,fun hb=>?_⟩<;>(try simp only [nrm] at hb)<;>(try (first|(exfalso;omega)|contradiction|exact kB hb)))|refine kA hrt ?_|refine kD hrt ?_|refine kA hpl ?_|refine kD hpl ?_|refine kW cfgV_ok ?_|refine kC ?_|refine bdA ?_|refine bd2 ?_|refine bdR ?_|refine bdL ?_)<;>(conv=>whnf))|(refine And.intro ?_ ?_;rotate_left;(conv=>whnf);rotate_right))
       all_goals try omega
       refine kXE hsi [(390001,150101),(390003,150103),(390005,150105)] rfl ?_
       conv=>whnf
       repeat' (first|exact trivial|((first|refine kL ?_|(refine ⟨fun hb=>?_,fun hb=>?_⟩<;>(try simp only [nrm] at hb)<;>(try (first|(exfalso;omega)|contradiction|exact kB hb)))|refine kW cfgV_ok ?_|refine kC ?_|refine bdA ?_|refine bd2 ?_|refine bdR ?_|refine bdL ?_)<;>(conv=>whnf))|(refine And.intro ?_ ?_;rotate_left;(conv=>whnf);rotate_right))
       all_goals try omega
       refine Runs.loopQ cfgV_ok (σ:=Nat) [1,3,6,10,11,48,49] (fun y=>[i64 id,.ptr 6 0,.ptr 12 0,.ptr 20 0,sightF 150101 150103,i64 S,i64 y])
         (fun y=>(6,.box (wldC w)) :: (12,.box (viewC zeroV)) :: (20,.box (viewOF w.tick p 150001 (R y).length 150003 0)) :: (150001,.row .chunkF (R y)) :: (150003,.row .seen []) :: sightMT p r 150101 150103 150105)
         (fun y=>y ≤ S) (fun y=>S - y) 0 (by omega) ?_ ?_
       · conv=>whnf
         repeat' (first|exact trivial|((first|refine kL ?_|(refine ⟨fun hb=>?_,fun hb=>?_⟩<;>(try simp only [nrm] at hb)<;>(try (first|(exfalso;omega)|contradiction|exact kB hb)))|refine kW cfgV_ok ?_|refine kC ?_|refine bdA ?_|refine bd2 ?_|refine bdR ?_|refine bdL ?_)<;>(conv=>whnf))|(refine And.intro ?_ ?_;rotate_left;(conv=>whnf);rotate_right))
         all_goals first|rfl|omega|(rw [hR0];done)|(rw [hR0];rfl)|trace_state
       · intro y hy N1 hN1 hE1 hT1
         by_cases hlt : y < S
         · have hz:=f0 y
           conv=>whnf
           repeat' (first|exact trivial|((first|refine kL ?_|(refine ⟨fun hb=>?_,fun hb=>?_⟩<;>(try simp only [nrm] at hb)<;>(try (first|(exfalso;omega)|contradiction|exact kB hb)))|refine kW cfgV_ok ?_|refine kC ?_|refine bdA ?_|refine bd2 ?_|refine bdR ?_|refine bdL ?_)<;>(conv=>whnf))|(refine And.intro ?_ ?_;rotate_left;(conv=>whnf);rotate_right))
           refine Runs.loopQ cfgV_ok (σ:=Nat) [1,3,6,10,11,12,48,49,53,54] (fun x=>[i64 id,.ptr 6 0,.ptr 12 0,.ptr 20 0,sightF 150101 150103,i64 y,i64 S,i64 y,i64 S,i64 x])
             (fun x=>(6,.box (wldC w)) :: (12,.box (viewC zeroV)) :: (20,.box (viewOF w.tick p 150001 (F y x).length 150003 0)) :: (150001,.row .chunkF (F y x)) :: (150003,.row .seen []) :: sightMT p r 150101 150103 150105)
             (fun x=>x ≤ S) (fun x=>S - x) 0 (by omega) ?_ ?_
           · conv=>whnf
             repeat' (first|exact trivial|((first|refine kL ?_|(refine ⟨fun hb=>?_,fun hb=>?_⟩<;>(try simp only [nrm] at hb)<;>(try (first|(exfalso;omega)|contradiction|exact kB hb)))|refine kW cfgV_ok ?_|refine kC ?_|refine bdA ?_|refine bd2 ?_|refine bdR ?_|refine bdL ?_)<;>(conv=>whnf))|(refine And.intro ?_ ?_;rotate_left;(conv=>whnf);rotate_right))
             all_goals first|rfl|omega|(rw [hz];done)|(rw [hz];exact List.take_length)|trace_state
           · intro x hx N2 hN2 hE2 hT2
             by_cases hlx : x < S
             · have hd : (F y x).length ≤ 272:=f4 y x hy hx
               have hcl:=sight2T_ev p r x y (by omega) (by omega) (by omega) (by omega)
               have hch:=hch x y hlx hlt
               cases hq : seesB p r x y with
               | true =>
                 rw [hq] at hcl
                 have hsu:=f2 y x hq
                 conv=>whnf
                 repeat' (first|exact trivial|((first|refine kL ?_|(refine ⟨fun hb=>?_,fun hb=>?_⟩<;>(try simp only [nrm] at hb)<;>(try (first|(exfalso;omega)|contradiction|exact kB hb)))|refine kE hcl [(0,150101),(2,150103),(4,150105)] rfl ?_|refine kF hcl [(0,150101),(2,150103),(4,150105)] rfl ?_|refine kA hch ?_|refine kD hch ?_|refine kW cfgV_ok ?_|refine kC ?_|refine bdA ?_|refine bd2 ?_|refine bdR ?_|refine bdL ?_)<;>(conv=>whnf))|(refine And.intro ?_ ?_;rotate_left;(conv=>whnf);rotate_right))
                 refine hN2 _ _ ?_
                 conv=>whnf
                 refine .to (x + 1) (by omega) (by omega) ?_
                 conv=>whnf
                 repeat' (first|exact trivial|((first|refine kL ?_|(refine ⟨fun hb=>?_,fun hb=>?_⟩<;>(try simp only [nrm] at hb)<;>(try (first|(exfalso;omega)|contradiction|exact kB hb)))|refine kW cfgV_ok ?_|refine kC ?_|refine bdA ?_|refine bd2 ?_|refine bdR ?_|refine bdL ?_)<;>(conv=>whnf))|(refine And.intro ?_ ?_;rotate_left;(conv=>whnf);rotate_right))
                 all_goals first|rfl|omega|(rw [hsu];simp;done)|(rw [hsu];exact List.take_of_length_le (by simp))|(rw [hsu,List.take_of_length_le (by simp),List.take_of_length_le (by simp)];rfl)|(rw [hsu,List.take_of_length_le (by simp)];simp;done)|(rw [hsu];simp;trace_state)
               | false =>
                 rw [hq] at hcl
                 have hsu:=f3 y x hq
                 conv=>whnf
                 repeat' (first|exact trivial|((first|refine kL ?_|(refine ⟨fun hb=>?_,fun hb=>?_⟩<;>(try simp only [nrm] at hb)<;>(try (first|(exfalso;omega)|contradiction|exact kB hb)))|refine kE hcl [(0,150101),(2,150103),(4,150105)] rfl ?_|refine kF hcl [(0,150101),(2,150103),(4,150105)] rfl ?_|refine kA hch ?_|refine kD hch ?_|refine kW cfgV_ok ?_|refine kC ?_|refine bdA ?_|refine bd2 ?_|refine bdR ?_|refine bdL ?_)<;>(conv=>whnf))|(refine And.intro ?_ ?_;rotate_left;(conv=>whnf);rotate_right))
                 refine hN2 _ _ ?_
                 conv=>whnf
                 refine .to (x + 1) (by omega) (by omega) ?_
                 conv=>whnf
                 repeat' (first|exact trivial|((first|refine kL ?_|(refine ⟨fun hb=>?_,fun hb=>?_⟩<;>(try simp only [nrm] at hb)<;>(try (first|(exfalso;omega)|contradiction|exact kB hb)))|refine kW cfgV_ok ?_|refine kC ?_|refine bdA ?_|refine bd2 ?_|refine bdR ?_|refine bdL ?_)<;>(conv=>whnf))|(refine And.intro ?_ ?_;rotate_left;(conv=>whnf);rotate_right))
                 all_goals first|rfl|omega|(rw [hsu];done)|(rw [hsu];exact List.take_length)|trace_state
             · obtain rfl : x = S:=by omega
               have hsu:=f1 y
               conv=>whnf
               repeat' (first|exact trivial|((first|refine kL ?_|(refine ⟨fun hb=>?_,fun hb=>?_⟩<;>(try simp only [nrm] at hb)<;>(try (first|(exfalso;omega)|contradiction|exact kB hb)))|refine kW cfgV_ok ?_|refine kC ?_|refine bdA ?_|refine bd2 ?_|refine bdR ?_|refine bdL ?_)<;>(conv=>whnf))|(refine And.intro ?_ ?_;rotate_left;(conv=>whnf);rotate_right))
               refine hE2 _ _ _ ?_
               conv=>whnf
               repeat' (first|exact trivial|((first|refine kL ?_|(refine ⟨fun hb=>?_,fun hb=>?_⟩<;>(try simp only [nrm] at hb)<;>(try (first|(exfalso;omega)|contradiction|exact kB hb)))|refine kW cfgV_ok ?_|refine kC ?_|refine bdA ?_|refine bd2 ?_|refine bdR ?_|refine bdL ?_)<;>(conv=>whnf))|(refine And.intro ?_ ?_;rotate_left;(conv=>whnf);rotate_right))
               refine hN1 _ _ ?_
               conv=>whnf
               refine .to (y + 1) (by omega) (by omega) ?_
               conv=>whnf
               repeat' (first|exact trivial|((first|refine kL ?_|(refine ⟨fun hb=>?_,fun hb=>?_⟩<;>(try simp only [nrm] at hb)<;>(try (first|(exfalso;omega)|contradiction|exact kB hb)))|refine kW cfgV_ok ?_|refine kC ?_|refine bdA ?_|refine bd2 ?_|refine bdR ?_|refine bdL ?_)<;>(conv=>whnf))|(refine And.intro ?_ ?_;rotate_left;(conv=>whnf);rotate_right))
               all_goals first|rfl|omega|(rw [hsu];done)|(rw [hsu];exact List.take_length)|trace_state
         · obtain rfl : y = S:=by omega
           have hln:=hRl y
           have hln2 : y * y ≤ 16 * 16:=Nat.mul_le_mul (by omega) (by omega)
           conv=>whnf
           repeat' (first|exact trivial|((first|refine kL ?_|(refine ⟨fun hb=>?_,fun hb=>?_⟩<;>(try simp only [nrm] at hb)<;>(try (first|(exfalso;omega)|contradiction|exact kB hb)))|refine kW cfgV_ok ?_|refine kC ?_|refine bdA ?_|refine bd2 ?_|refine bdR ?_|refine bdL ?_)<;>(conv=>whnf))|(refine And.intro ?_ ?_;rotate_left;(conv=>whnf);rotate_right))
           refine hE1 _ _ _ ?_
           conv=>whnf
           repeat' (first|exact trivial|((first|refine kL ?_|(refine ⟨fun hb=>?_,fun hb=>?_⟩<;>(try simp only [nrm] at hb)<;>(try (first|(exfalso;omega)|contradiction|exact kB hb)))|refine kW cfgV_ok ?_|refine kC ?_|refine bdA ?_|refine bd2 ?_|refine bdR ?_|refine bdL ?_)<;>(conv=>whnf))|(refine And.intro ?_ ?_;rotate_left;(conv=>whnf);rotate_right))
           refine Runs.loopQ cfgV_ok (σ:=Nat) [1,6,10,11,77,78,79] (fun k=>[i64 id,.ptr 12 0,.ptr 20 0,sightF 150101 150103,.vec .player w.players,i64 w.players.length,i64 k])
             (fun k=>(12,.box (viewC zeroV)) :: (20,.box (viewOF w.tick p 150001 (R y).length 150003 (O k).length)) :: (150001,.row .chunkF (R y)) :: (150003,.row .seen (O k)) :: sightMT p r 150101 150103 150105)
             (fun k=>k ≤ w.players.length) (fun k=>w.players.length - k) 0 (by omega) ?_ ?_
           · conv=>whnf
             repeat' (first|exact trivial|((first|refine kL ?_|(refine ⟨fun hb=>?_,fun hb=>?_⟩<;>(try simp only [nrm] at hb)<;>(try (first|(exfalso;omega)|contradiction|exact kB hb)))|refine kW cfgV_ok ?_|refine kC ?_|refine bdA ?_|refine bd2 ?_|refine bdR ?_|refine bdL ?_)<;>(conv=>whnf))|(refine And.intro ?_ ?_;rotate_left;(conv=>whnf);rotate_right))
             all_goals first|rfl|omega|exact List.take_length|(rw [o0];done)|(rw [o0];rfl)|trace_state
           · intro k hk N3 hN3 hE3 hT3
             have hol:=o2 k
             by_cases hlk : k < w.players.length
             · have hqb:=within_bd hRW (elt_mem (t:=.player) hlk)
               have hcl:=sight2T_ev p r ((elt .player w.players k).x / 8) ((elt .player w.players k).y / 8) (by omega) (by omega) (by omega) (by omega)
               have hqc : 0 ≤ (elt .player w.players ((k : Nat) : Int).toNat).x ∧ (elt .player w.players ((k : Nat) : Int).toNat).x < 128 ∧ 0 ≤ (elt .player w.players ((k : Nat) : Int).toNat).y ∧ (elt .player w.players ((k : Nat) : Int).toNat).y < 128:=hqb
               have hsu:=o1 k hlk
               have hln3:=o2 k
               by_cases hid : (elt .player w.players k).id = id
               · rw [if_neg (by unfold othB;rw [decide_eq_true hid];simp),List.append_nil] at hsu
                 conv=>whnf
                 repeat' (first|exact trivial|((first|refine kL ?_|(refine ⟨fun hb=>?_,fun hb=>?_⟩<;>(try simp only [nrm] at hb)<;>(try (first|(exfalso;omega)|contradiction|exact kB hb)))|refine kE hcl [(0,150101),(2,150103),(4,150105)] rfl ?_|refine kF hcl [(0,150101),(2,150103),(4,150105)] rfl ?_|refine kW cfgV_ok ?_|refine kC ?_|refine bdA ?_|refine bd2 ?_|refine bdR ?_|refine bdL ?_)<;>(conv=>whnf))|(refine And.intro ?_ ?_;rotate_left;(conv=>whnf);rotate_right))
                 refine hN3 _ _ ?_
                 conv=>whnf
                 refine .to (k + 1) (by omega) (by omega) ?_
                 conv=>whnf
                 repeat' (first|exact trivial|((first|refine kL ?_|(refine ⟨fun hb=>?_,fun hb=>?_⟩<;>(try simp only [nrm] at hb)<;>(try (first|(exfalso;omega)|contradiction|exact kB hb)))|refine kW cfgV_ok ?_|refine kC ?_|refine bdA ?_|refine bd2 ?_|refine bdR ?_|refine bdL ?_)<;>(conv=>whnf))|(refine And.intro ?_ ?_;rotate_left;(conv=>whnf);rotate_right))
                 all_goals first|rfl|omega|exact List.take_length|(rw [hsu];done)|(rw [hsu];exact List.take_length)|trace_state
               · cases hq : seesB p r ((elt .player w.players k).x / 8) ((elt .player w.players k).y / 8) with
                 | false =>
                   rw [if_neg (by unfold othB;rw [hq,Bool.and_false];simp),List.append_nil] at hsu
                   rw [hq] at hcl
                   conv=>whnf
                   repeat' (first|exact trivial|((first|refine kL ?_|(refine ⟨fun hb=>?_,fun hb=>?_⟩<;>(try simp only [nrm] at hb)<;>(try (first|(exfalso;omega)|contradiction|exact kB hb)))|refine kE hcl [(0,150101),(2,150103),(4,150105)] rfl ?_|refine kF hcl [(0,150101),(2,150103),(4,150105)] rfl ?_|refine kW cfgV_ok ?_|refine kC ?_|refine bdA ?_|refine bd2 ?_|refine bdR ?_|refine bdL ?_)<;>(conv=>whnf))|(refine And.intro ?_ ?_;rotate_left;(conv=>whnf);rotate_right))
                   refine hN3 _ _ ?_
                   conv=>whnf
                   refine .to (k + 1) (by omega) (by omega) ?_
                   conv=>whnf
                   repeat' (first|exact trivial|((first|refine kL ?_|(refine ⟨fun hb=>?_,fun hb=>?_⟩<;>(try simp only [nrm] at hb)<;>(try (first|(exfalso;omega)|contradiction|exact kB hb)))|refine kW cfgV_ok ?_|refine kC ?_|refine bdA ?_|refine bd2 ?_|refine bdR ?_|refine bdL ?_)<;>(conv=>whnf))|(refine And.intro ?_ ?_;rotate_left;(conv=>whnf);rotate_right))
                   all_goals first|rfl|omega|exact List.take_length|(rw [hsu];done)|(rw [hsu];exact List.take_length)|trace_state
                 | true =>
                   rw [if_pos (by unfold othB;rw [hq,decide_eq_false hid];rfl)] at hsu
                   rw [hq] at hcl
                   conv=>whnf
                   repeat' (first|exact trivial|((first|refine kL ?_|(refine ⟨fun hb=>?_,fun hb=>?_⟩<;>(try simp only [nrm] at hb)<;>(try (first|(exfalso;omega)|contradiction|exact kB hb)))|refine kE hcl [(0,150101),(2,150103),(4,150105)] rfl ?_|refine kF hcl [(0,150101),(2,150103),(4,150105)] rfl ?_|refine kW cfgV_ok ?_|refine kC ?_|refine bdA ?_|refine bd2 ?_|refine bdR ?_|refine bdL ?_)<;>(conv=>whnf))|(refine And.intro ?_ ?_;rotate_left;(conv=>whnf);rotate_right))
                   refine hN3 _ _ ?_
                   conv=>whnf
                   refine .to (k + 1) (by omega) (by omega) ?_
                   conv=>whnf
                   repeat' (first|exact trivial|((first|refine kL ?_|(refine ⟨fun hb=>?_,fun hb=>?_⟩<;>(try simp only [nrm] at hb)<;>(try (first|(exfalso;omega)|contradiction|exact kB hb)))|refine kW cfgV_ok ?_|refine kC ?_|refine bdA ?_|refine bd2 ?_|refine bdR ?_|refine bdL ?_)<;>(conv=>whnf))|(refine And.intro ?_ ?_;rotate_left;(conv=>whnf);rotate_right))
                   all_goals first|rfl|omega|exact List.take_length|(rw [hsu];simp;done)|(rw [hsu];exact List.take_of_length_le (by simp))|(rw [hsu,List.take_of_length_le (by simp),List.take_of_length_le (by simp),List.take_of_length_le (by simp)];rfl)|trace_state
             · obtain rfl : k = w.players.length:=by omega
               conv=>whnf
               repeat' (first|exact trivial|((first|refine kL ?_|(refine ⟨fun hb=>?_,fun hb=>?_⟩<;>(try simp only [nrm] at hb)<;>(try (first|(exfalso;omega)|contradiction|exact kB hb)))|refine kW cfgV_ok ?_|refine kC ?_|refine bdA ?_|refine bd2 ?_|refine bdR ?_|refine bdL ?_)<;>(conv=>whnf))|(refine And.intro ?_ ?_;rotate_left;(conv=>whnf);rotate_right))
               refine hE3 _ _ _ ?_
               conv=>whnf
               repeat' (first|exact trivial|((first|refine kL ?_|(refine ⟨fun hb=>?_,fun hb=>?_⟩<;>(try simp only [nrm] at hb)<;>(try (first|(exfalso;omega)|contradiction|exact kB hb)))|refine kW cfgV_ok ?_|refine kC ?_|refine bdA ?_|refine bd2 ?_|refine bdR ?_|refine bdL ?_)<;>(conv=>whnf))|(refine And.intro ?_ ?_;rotate_left;(conv=>whnf);rotate_right))
               all_goals first|rfl|omega|exact List.take_length|trace_state
end Go.Proofs.Ytaecchphjploaaa
