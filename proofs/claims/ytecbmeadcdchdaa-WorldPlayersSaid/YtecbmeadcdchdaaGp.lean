/- homesteadlaw13.WorldPlayers. -/
import Derived.Test.YtecbmeadcdchdaaGd
import Derived.Test.YtecbmeadcdchdaaGn
import Derived.Test.YtecbmeadcdchdaaGg
import Derived.Test.YtecbmeadcdchdaaGe
set_option linter.unusedSimpArgs false
set_option linter.unusedVariables false
set_option maxRecDepth 100000
set_option maxHeartbeats 16000000
namespace Go.Proofs.Ytecbmeadcdchdaa
open Go Go.RowKit Eng
theorem tmod_pos {n s : Int} (h : 1 ≤ s) : (if Int.tmod n s < 0 then Int.tmod n s + s else Int.tmod n s) = n % s:=by
 rw [Int.tmod_eq_emod]
 have h1:=Int.emod_nonneg n (by omega : s ≠ 0)
 have h2:=Int.emod_lt_of_pos n (by omega : 0 < s)
 by_cases hd : 0 ≤ n ∨ s ∣ n
 · rw [if_pos hd];split<;>omega
 · rw [if_neg hd];split<;>omega
theorem tmod_bd {n s : Int} (h : 1 ≤ s) : -s < Int.tmod n s ∧ Int.tmod n s < s:=by
 rw [Int.tmod_eq_emod]
 have h1:=Int.emod_nonneg n (by omega : s ≠ 0)
 have h2:=Int.emod_lt_of_pos n (by omega : 0 < s)
 have h3 : n % s = 0 → s ∣ n:=Int.dvd_of_emod_eq_zero
 by_cases hd : 0 ≤ n ∨ s ∣ n
 · rw [if_pos hd];omega
 · rw [if_neg hd];omega
theorem pick_api (n s : Int) (hs : 1 ≤ s) (hs2 : s ≤ 4611686018427387904) : Api Try.prog 5 [i64 n,i64 s] (i64 (n % s)):=by
 have hb:=tmod_bd (n:=n) hs
 have he:=tmod_pos (n:=n) hs
 refine Api.of_fin cfg_ok Try.func5 rfl (nt:=14) rfl rfl ?_
 conv=>whnf
 repeat' (first|exact trivial|((first|refine kL ?_|(refine ⟨fun hb=>?_,fun hb=>?_⟩<;>(try simp only [nrm] at hb)<;>(try (first|(exfalso;omega)|contradiction|exact kB hb)))|(refine .inr ⟨(by omega : s ≠ 0),?_⟩)|refine kW cfg_ok ?_|refine kC ?_|refine bdA ?_|refine bd2 ?_|refine bdR ?_|refine bdL ?_)<;>(conv=>whnf))|(refine And.intro ?_ ?_;rotate_left;(conv=>whnf);rotate_right))
open Go Go.RowKit Eng
def ksI (I : List Int) : List Value:=I.map (Value.int .i64)
def csI (I : List Int) : List AV:=I.map fun _=>i64 1
theorem ksI_ok : ∀ I : List Int,ksB .i64 (ksI I) = true
 | []=>rfl
 | _ :: r=>ksI_ok r
theorem ksI_no {z : Int} : ∀ {I : List Int},z ∉ I → findA z (ksI I) = none
 | [],_=>rfl
 | y :: r,h=>by
   have h1 : ¬ z = y:=fun e=>h (e ▸ List.mem_cons_self ..)
   have h2:=ksI_no (I:=r) fun e=>h (List.mem_cons_of_mem _ e)
   show (match decide (z = y) with|true=>some 0|false=>match findA z (ksI r) with|some i=>some (i + 1)|none=>none) = none
   rw [decide_eq_false h1,h2]
theorem ksI_yes {z : Int} : ∀ {I : List Int},z ∈ I → ∃ i,findA z (ksI I) = some i ∧ (csI I)[i]? = some (i64 1)
 | [],h=>by cases h
 | y :: r,h=>by
   by_cases h1 : z = y
   · refine ⟨0,?_,rfl⟩
     show (match decide (z = y) with|true=>some 0|false=>match findA z (ksI r) with|some i=>some (i + 1)|none=>none) = some 0
     rw [decide_eq_true h1]
   · have h3 : z ∈ r:=by
       rcases List.mem_cons.1 h with h|h
       · exact absurd h h1
       · exact h
     obtain ⟨i,h4,h5⟩:=ksI_yes h3
     refine ⟨i + 1,?_,h5⟩
     show (match decide (z = y) with|true=>some 0|false=>match findA z (ksI r) with|some i=>some (i + 1)|none=>none) = some (i + 1)
     rw [decide_eq_false h1,h4]
theorem ksI_snoc (I : List Int) (z : Int) : snoc (ksI I) (Value.int .i64 z) = ksI (I ++ [z]):=by
 induction I with
 | nil=>rfl
 | cons y r ih=>show _ :: snoc (ksI r) _ = _ :: ksI (r ++ [z]);rw [ih]
theorem csI_snoc (I : List Int) (z : Int) : snoc (csI I) (i64 1) = csI (I ++ [z]):=by
 induction I with
 | nil=>rfl
 | cons y r ih=>show _ :: snoc (csI r) _ = _ :: csI (r ++ [z]);rw [ih]
def plainP (id x y : Int) : Player:=⟨id,x,y,List.replicate 8 ⟨0,0⟩,-1,[],false⟩
theorem plainP_sound {id : Int} (h : 0 ≤ id ∧ id ≤ 5000) (x y : Int) : soundB (plainP id x y) = true:=by
 have h1 : decide (0 ≤ id) = true:=decide_eq_true h.1
 have h2 : decide (id ≤ 1073741824) = true:=decide_eq_true (by omega)
 have h3 : soundB (plainP id x y) = (decide (0 ≤ id) && (decide (id ≤ 1073741824) && true)):=rfl
 rw [h3,h1,h2];rfl
structure PlW (I : List Int) (n : Int) (W : Wld) : Prop where
 rw : RW W
 size : W.size = 1
 len : W.players.length = I.length
 has : ∀ t,(getK pid W.players t).isSome = true ↔ t ∈ I
 bd : ∀ t ∈ I,t ≤ 1000 + n
theorem player_get {w : Wld} (hR : RW w) (id : Int) : playerW w id = match getK pid w.players id with|some p=>(p,true)|none=>(zeroP,false):=by
 unfold playerW;rw [if_neg (by rw [rightW_iff.2 hR];simp)];rfl
theorem pl_within {W : Wld} (hR : RW W) (hs : W.size = 1) {x y : Int} (hx : 0 ≤ x ∧ x < 8) (hy : 0 ≤ y ∧ y < 8) : withinW W.size x y = true:=(within_iff hR).2 ⟨hx.1,hy.1,by rw [hs];omega,by rw [hs];omega⟩
theorem pl_step {I : List Int} {n : Int} {W : Wld} (h : PlW I n W) {id x y : Int} (hid : 0 ≤ id ∧ id ≤ 1000 + (n + 1)) (hn : n ≤ 100) (hno : id ∉ I) (hl : I.length < 32) (hx : 0 ≤ x ∧ x < 8) (hy : 0 ≤ y ∧ y < 8) :
   (setW W (plainP id x y)).2 = 0 ∧ PlW (I ++ [id]) (n + 1) (setW W (plainP id x y)).1 ∧ playerW (setW W (plainP id x y)).1 id = (plainP id x y,true):=by
 have hnone : ¬ (getK pid W.players id).isSome = true:=fun e=>hno ((h.has id).1 e)
 have hok : setOk W (plainP id x y):=⟨h.rw,plainP_sound (by omega) x y,pl_within h.rw h.size hx hy,.inr (by rw [h.len];exact hl)⟩
 have hU:=rw_set hok
 rw [set_eq hok]
 refine ⟨rfl,⟨hU,h.size,?_,fun t=>?_,fun t ht=>?_⟩,?_⟩
 · show (setL W.players (plainP id x y)).length = _
   rw [setL_length h.rw.rp,if_neg (show ¬ (getK pid W.players (plainP id x y).id).isSome = true from hnone),List.length_append,h.len];rfl
 · show (getK pid (setL W.players (plainP id x y)) t).isSome = true ↔ _
   rw [getK_setL h.rw.rp,List.mem_append,← h.has t]
   by_cases ht : t = id
   · subst ht
     rw [if_pos (show t = (plainP t x y).id from rfl)]
     simp
   · rw [if_neg (show ¬ t = (plainP id x y).id from ht)]
     simp [ht]
 · rcases List.mem_append.1 ht with ht|ht
   · have:=h.bd t ht;omega
   · rw [List.mem_singleton] at ht;omega
 · rw [player_get hU]
   have : getK pid (withP W (setL W.players (plainP id x y))).players id = some (plainP id x y):=by
     show getK pid (setL W.players (plainP id x y)) id = _
     rw [getK_setL h.rw.rp,if_pos (show id = (plainP id x y).id from rfl)]
   rw [this]
theorem pl_full {I : List Int} {n : Int} {W : Wld} (h : PlW I n W) {id x y : Int} (hid : 0 ≤ id ∧ id ≤ 5000) (hno : id ∉ I) (hl : 32 ≤ I.length) (hx : 0 ≤ x ∧ x < 8) (hy : 0 ≤ y ∧ y < 8) : setW W (plainP id x y) = (W,3):=by
 have hnone : ¬ (getK pid W.players id).isSome = true:=fun e=>hno ((h.has id).1 e)
 unfold setW
 rw [if_neg (by rw [rightW_iff.2 h.rw];simp),if_neg (by rw [plainP_sound hid x y,show withinW W.size (plainP id x y).x (plainP id x y).y = true from pl_within h.rw h.size hx hy];simp),if_neg (show ¬ (getK pid W.players (plainP id x y).id).isSome = true from hnone),if_pos (by rw [h.len];exact hl)]
theorem pl_more {I : List Int} {n : Int} {W : Wld} (h : PlW I n W) : PlW I (n + 1) W:=⟨h.rw,h.size,h.len,h.has,fun t ht=>by have:=h.bd t ht;omega⟩
open Go Go.RowKit Eng
abbrev plV (id x y : Int) (b : AV) : AV:=.agg [i64 id,i64 x,i64 y,b,i64 (-1),.lit (.slice none 0 0),.ff]
theorem lendP {P : Program} {fid : FuncId} {c : Option Nat} {id x y : Int} {Z : List (El .slot)} {v : AV} (h : Api P fid [plV id x y (.vec .slot Z)] v) (hn : Z.length = 8) (hv : scalB v = true) : Ev1 P fid [plV id x y (.own .slot 1 0 8 c)] [(1,.row .slot Z)] v [(1,.row .slot Z)]:=by
 refine Api.lend h ?_ hv
 conv=>whnf
 refine ⟨by omega,?_⟩
 rw [List.drop_zero,List.take_of_length_le (by omega)]
 rfl
theorem lendPQ {P : Program} {fid : FuncId} {c : Option Nat} {id x y : Int} {Z : List (El .slot)} {q : Player} {v : AV} (h : Api P fid [plV id x y (.vec .slot Z),playerV q] v) (hn : Z.length = 8) (hv : scalB v = true) : Ev1 P fid [plV id x y (.own .slot 1 0 8 c),playerV q] [(1,.row .slot Z)] v [(1,.row .slot Z)]:=by
 refine Api.lend h ?_ hv
 conv=>whnf
 refine ⟨by omega,?_⟩
 rw [List.drop_zero,List.take_of_length_le (by omega)]
 rfl
theorem le_pl (id x y : Int) (b : AV) : Le (plV id x y b) (.agg [i64 id,i64 x,i64 y,b,i64 (-1),.vec .slot [],bol false]):=Le.agg (.cons (Le.refl _) (.cons (Le.refl _) (.cons (Le.refl _) (.cons (Le.refl _) (.cons (Le.refl _) (.cons (Le.nil _) (.cons (Le.ff rfl) .nil)))))))
theorem clone_slotsO (l : List (El .slot)) (c : Option Nat) (hl : l.length * 16 ≤ 140737488355328) : Ev1 Try.prog 37 [.own .slot 1 0 l.length c] [(1,.row .slot l)] (.own .slot 390001 0 l.length none) [(1,.row .slot l),(390001,.row .slot l)]:=by
 refine Ev1.of_fin cfg_ok Try.func37 rfl (nt:=7) rfl rfl rfl ?_
 conv=>whnf
 repeat' (first|exact trivial|((first|refine kL ?_|(refine ⟨fun hb=>?_,fun hb=>?_⟩<;>(try simp only [nrm] at hb)<;>(try (first|(exfalso;omega)|contradiction|exact kB hb)))|refine kW cfg_ok ?_|refine kC ?_|refine bdA ?_|refine bd2 ?_|refine bdR ?_|refine bdL ?_)<;>(conv=>whnf))|(refine And.intro ?_ ?_;rotate_left;(conv=>whnf);rotate_right))
 all_goals simp_all
theorem aloneO_ev (id x y : Int) (Z : List (El .slot)) (c : Option Nat) (hZ : Z.length = 8) : Ev1 Try.prog 15 [plV id x y (.own .slot 1 0 8 c)] [(1,.row .slot Z)] (playerV ⟨id,x,y,Z,-1,[],false⟩) [(1,.row .slot Z)]:=by
 have h1:=clone_slotsO Z c (by omega)
 rw [hZ] at h1
 have h2:=api_weak (cloneV_slots [] (by decide)) (.cons (Le.nil _) .nil)
 refine Ev1.of_fin cfg_ok Try.func15 rfl (nt:=11) rfl rfl rfl ?_
 conv=>whnf
 repeat' (first|exact trivial|((first|refine kL ?_|(refine ⟨fun hb=>?_,fun hb=>?_⟩<;>(try simp only [nrm] at hb)<;>(try (first|(exfalso;omega)|contradiction|exact kB hb)))|refine kE h1 [(1,1),(390001,350001)] rfl ?_|refine kF h1 [(1,1),(390001,350001)] rfl ?_|refine kA h2 ?_|refine kD h2 ?_|refine kW cfg_ok ?_|refine kC ?_|refine bdA ?_|refine bd2 ?_|refine bdR ?_|refine bdL ?_)<;>(conv=>whnf))|(refine And.intro ?_ ?_;rotate_left;(conv=>whnf);rotate_right))
 all_goals first|rfl|omega|(rw [List.drop_zero];exact List.take_of_length_le (by omega))|trace_state
abbrev plZ (id x y : Int) (Z : List (El .slot)) : Player:=⟨id,x,y,Z,-1,[],false⟩
theorem setO_ev (w : Wld) (hw : OkW w) (hRW : RW w) (id x y : Int) (Z : List (El .slot)) (c : Option Nat) (hZ : Z.length = 8) (hS : soundB (plZ id x y Z) = true) (hI : withinW w.size x y = true) (hT : (getK pid w.players id).isSome = false) : Ev1 Try.prog 6 [wldV w,plV id x y (.own .slot 1 0 8 c)] [(1,.row .slot Z)] (.tup [wldV (setW w (plZ id x y Z)).1,i64 (setW w (plZ id x y Z)).2]) [(1,.row .slot Z)]:=by
 have hR:=rightW_iff.2 hRW
 have hnc:=hw.nc
 have hnp:=hw.np
 have hrt:=rightW_api w hw
 have hpo : OkP (plZ id x y Z):=okP_sound hS
 have hsk:=seek_own w id (by omega)
 have hso:=sound_api (plZ id x y Z) hpo
 have hwc:=wcopied_ev w hw
 rw [hR] at hrt
 obtain ⟨hri,h32,hs1,hs2⟩:=rightW_players hR
 obtain ⟨e1,e2⟩:=bsP_rises hri id
 rw [e1,e2] at hsk
 rw [hS] at hso
 have hsl:=lendP (c:=c) (api_weak hso (.cons (le_pl id x y _) .nil)) hZ rfl
 have hwl:=within_own w x y
 rw [hI] at hwl
 have hal:=aloneO_ev id x y Z c hZ
 have hle:=lbK_le pid id w.players
 rw [hT] at hsk
 clear hso
 by_cases h32' : 32 ≤ w.players.length
 · have hs : setW w (plZ id x y Z) = (w,3):=by unfold setW;rw [if_neg (by rw [hR];simp),if_neg (by rw [hS,hI];simp),if_neg (by rw [hT];simp),if_pos h32']
   rw [hs]
   generalize lbK pid id w.players = at_ at *
   refine Ev1.of_fin cfg_ok Try.func6 rfl (nt:=60) rfl rfl rfl ?_
   conv=>whnf
   repeat' (first|exact trivial|((first|refine kL ?_|(refine ⟨fun hb=>?_,fun hb=>?_⟩<;>(try simp only [nrm] at hb)<;>(try (first|(exfalso;omega)|contradiction|exact kB hb)))|refine kE hwc [(390001,350001),(390003,350003)] rfl ?_|refine kF hwc [(390001,350001),(390003,350003)] rfl ?_|refine kE hsk [(1,350001),(3,350003)] rfl ?_|refine kF hsk [(1,350001),(3,350003)] rfl ?_|refine kE hsl [(1,1)] rfl ?_|refine kF hsl [(1,1)] rfl ?_|refine kE hwl [(1,350001),(3,350003)] rfl ?_|refine kF hwl [(1,350001),(3,350003)] rfl ?_|refine kA hrt ?_|refine kD hrt ?_|refine kW cfg_ok ?_|refine kC ?_|refine bdA ?_|refine bd2 ?_|refine bdR ?_|refine bdL ?_)<;>(conv=>whnf))|(refine And.intro ?_ ?_;rotate_left;(conv=>whnf);rotate_right))
   all_goals first|rfl|(simp;done)|(simp [withP];done)|(rw [List.drop_zero];refine take_all ?_;simp;done)|(rw [List.drop_zero];refine take_all ?_;simp;omega)|trace_state
 · have hs : setW w (plZ id x y Z) = (withP w (w.players.take (lbK pid id w.players) ++ (plZ id x y Z) :: w.players.drop (lbK pid id w.players)),0):=by unfold setW;rw [if_neg (by rw [hR];simp),if_neg (by rw [hS,hI];simp),if_neg (by rw [hT];simp),if_neg h32']
   rw [hs]
   generalize lbK pid id w.players = at_ at *
   refine Ev1.of_fin cfg_ok Try.func6 rfl (nt:=60) rfl rfl rfl ?_
   conv=>whnf
   repeat' (first|exact trivial|((first|refine kL ?_|(refine ⟨fun hb=>?_,fun hb=>?_⟩<;>(try simp only [nrm] at hb)<;>(try (first|(exfalso;omega)|contradiction|exact kB hb)))|refine kE hwc [(390001,350001),(390003,350003)] rfl ?_|refine kF hwc [(390001,350001),(390003,350003)] rfl ?_|refine kE hsk [(1,350001),(3,350003)] rfl ?_|refine kF hsk [(1,350001),(3,350003)] rfl ?_|refine kE hsl [(1,1)] rfl ?_|refine kF hsl [(1,1)] rfl ?_|refine kE hwl [(1,350001),(3,350003)] rfl ?_|refine kF hwl [(1,350001),(3,350003)] rfl ?_|refine kE hal [(1,1)] rfl ?_|refine kF hal [(1,1)] rfl ?_|(refine isE 16 ?_;refine kE (insert_evnP w.players _ at_ (plZ id x y Z) rfl hle (by omega)) [(1,350003),(3,200117),(390001,350007)] rfl ?_)|(refine isD 16 ?_;refine kF (insert_evnP w.players _ at_ (plZ id x y Z) rfl hle (by omega)) [(1,350003),(3,200117),(390001,350007)] rfl ?_)|refine kA hrt ?_|refine kD hrt ?_|refine kW cfg_ok ?_|refine kC ?_|refine bdA ?_|refine bd2 ?_|refine bdR ?_|refine bdL ?_)<;>(conv=>whnf))|(refine And.intro ?_ ?_;rotate_left;(conv=>whnf);rotate_right))
   all_goals first|rfl|(simp;done)|(simp [withP];done)|(rw [List.drop_zero];refine take_all ?_;simp;done)|(rw [List.drop_zero];refine take_all ?_;simp;omega)|trace_state
open Go Go.RowKit Eng
theorem fgt_cs (k : Nat) (I : List Int) (K : List AV → Prop) : fgtCL k (csI I) K = K (csI I):=by
 induction I generalizing K with
 | nil=>rfl
 | cons y r ih =>
   show fgtCL k (csI r) (fun l=>K (i64 1 :: l)) = _
   rw [ih];rfl
theorem fgt_sn (k : Nat) (I : List Int) (z : Int) (K : List AV → Prop) : fgtCL k (snoc (csI I) (AV.lit (Value.int IntKind.i64 1))) K = K (csI (I ++ [z])):=by
 rw [show snoc (csI I) (AV.lit (Value.int IntKind.i64 1)) = csI (I ++ [z]) from csI_snoc I z,fgt_cs]
theorem pl_zero {W : Wld} (h : newW 1 0 = (W,0)) (hR : RW W) (hs : W.size = 1) (hp : W.players = []) : PlW [] 0 W:=⟨hR,hs,by rw [hp];rfl,fun t=>by rw [hp];simp [getK],fun t ht=>by cases ht⟩
def w10 : Wld:=⟨1,0,0,[],[]⟩
theorem rw10 : RW w10:=rightW_iff.1 (by kernel_rfl)
theorem new10 : newW 1 0 = (w10,0):=by rfl
theorem wplay_api (b : Int) (hb8 : 0 ≤ b ∧ b ≤ 255) (ids : List (El .i64)) (hil : ids.length ≤ 9000000000000000000) : Api Try.prog 3 [.lit (.int .u8 b),.vec .i64 ids] (bol true):=by
 have haw:=awake13_api
 have hn:=wnew_api 1 0
 rw [new10] at hn
 have h00:=pl_zero new10 rw10 rfl rfl
 generalize w10 = W0 at *
 dsimp only at hn
 refine Api.of_fin cfg_ok Try.func3 rfl (nt:=98) rfl rfl ?_
 conv=>whnf
 repeat' (first|exact trivial|((first|refine kL ?_|(refine ⟨fun hb=>?_,fun hb=>?_⟩<;>(try simp only [nrm] at hb)<;>(try (first|(exfalso;omega)|contradiction|exact kB hb)))|refine kA hn ?_|refine kD hn ?_|refine kW cfg_ok ?_|refine kC ?_|refine bdA ?_|refine bd2 ?_|refine bdR ?_|refine bdL ?_)<;>(conv=>whnf))|(refine And.intro ?_ ?_;rotate_left;(conv=>whnf);rotate_right))
 all_goals first|omega|skip
 refine Runs.loopQ cfg_ok (σ:=Nat × List Int × Wld) [1,5,7,26,27] (fun s=>[.vec .i64 ids,.ptr 10 0,.mp 44,i64 (28 + b % 9),i64 (s.1 : Nat)])
   (fun s=>[(10,.box (wldC s.2.2)),(44,.mp (ksI s.2.1) (csI s.2.1))])
   (fun s=>(s.1 : Int) ≤ 28 + b % 9 ∧ PlW s.2.1 s.1 s.2.2) (fun s=>(28 + b % 9).toNat - s.1) (0,[],W0) ⟨by show ((0 : Nat) : Int) ≤ _;omega,h00⟩ ?_ ?_
 · conv=>whnf
   repeat' (first|exact trivial|((first|refine kL ?_|(refine ⟨fun hb=>?_,fun hb=>?_⟩<;>(try simp only [nrm] at hb)<;>(try (first|(exfalso;omega)|contradiction|exact kB hb)))|refine kW cfg_ok ?_|refine kC ?_|refine bdA ?_|refine bd2 ?_|refine bdR ?_|refine bdL ?_)<;>(conv=>whnf))|(refine And.intro ?_ ?_;rotate_left;(conv=>whnf);rotate_right))
   all_goals first|rfl|omega|trace_state
 · rintro ⟨i,I,W⟩ ⟨hi,hP⟩ N1 hN1 hE1 hT1
   dsimp only at hi hP ⊢
   by_cases hlt : (i : Int) < 28 + b % 9
   · have hPs:=hP.rw.size
     have hOW:=okW_rw hP.rw
     have hOP:=fun z hz=>okP_sound (plainP_sound (id:=z) hz ((i : Int) % 8) ((i : Int) / 8 % 8))
     have hk:=pick_api (elt .i64 ids i) 1000 (by decide) (by decide)
     have key : ∃ z0 : Int,0 ≤ z0 ∧ z0 ≤ 1000 ∧ ((i < ids.length ∧ (elt .i64 ids i : Int) % 1000 = z0) ∨ (¬ i < ids.length ∧ z0 = i)):=by
       by_cases hin : i < ids.length
       · have : ∀ z : Int,0 ≤ z % 1000 ∧ z % 1000 ≤ 1000:=fun z=>by omega
         exact ⟨_,(this _).1,(this _).2,.inl ⟨hin,rfl⟩⟩
       · exact ⟨i,by omega,by omega,.inr ⟨hin,rfl⟩⟩
     obtain ⟨z0,hz1,hz2,hz3⟩:=key
     have hks:=ksI_ok I
     have hkl : (ksI I).length = I.length:=List.length_map ..
     rcases hz3 with ⟨hin,he⟩|⟨hin,he⟩
     · rw [he] at hk
       clear he
       conv=>whnf
       repeat' (first|exact trivial|((first|refine kL ?_|(refine ⟨fun hb=>?_,fun hb=>?_⟩<;>(try simp only [nrm] at hb)<;>(try (first|(exfalso;omega)|contradiction|exact kB hb)))|refine kA hk ?_|refine kD hk ?_|refine kW cfg_ok ?_|refine kC ?_|refine bdA ?_|refine bd2 ?_|refine bdR ?_|refine bdL ?_)<;>(conv=>whnf))|(refine And.intro ?_ ?_;rotate_left;(conv=>whnf);rotate_right))
       all_goals first|omega|skip
       refine Runs.loopQ cfg_ok (σ:=Int) [1,5,7,8,9,26,27] (fun z=>[.vec .i64 ids,.ptr 10 0,.mp 44,i64 (i : Nat),i64 z,i64 (28 + b % 9),i64 (i : Nat)])
         (fun z=>[(10,.box (wldC W)),(44,.mp (ksI I) (csI I))])
         (fun z=>0 ≤ z ∧ z ≤ 1000 + ((i : Int) + 1)) (fun z=>(1000 + ((i : Int) + 2) - z).toNat) z0 ⟨by omega,by omega⟩ ?_ ?_
       · conv=>whnf
         repeat' (first|exact trivial|((first|refine kL ?_|(refine ⟨fun hb=>?_,fun hb=>?_⟩<;>(try simp only [nrm] at hb)<;>(try (first|(exfalso;omega)|contradiction|exact kB hb)))|refine kW cfg_ok ?_|refine kC ?_|refine bdA ?_|refine bd2 ?_|refine bdR ?_|refine bdL ?_)<;>(conv=>whnf))|(refine And.intro ?_ ?_;rotate_left;(conv=>whnf);rotate_right))
         all_goals first|rfl|omega|trace_state
       · rintro z ⟨hz4,hz5⟩ N2 hN2 hE2 hT2
         by_cases hzI : z ∈ I
         · obtain ⟨j,hj1,hj2⟩:=ksI_yes hzI
           have hbd:=hP.bd z hzI
           conv=>whnf
           repeat' (first|exact trivial|((first|refine kL ?_|(refine ⟨fun hb=>?_,fun hb=>?_⟩<;>(try simp only [nrm] at hb)<;>(try (first|(exfalso;omega)|contradiction|exact kB hb)))|(rw [hks])|(rw [hj1])|(rw [hj2])|refine kW cfg_ok ?_|refine kC ?_|refine bdA ?_|refine bd2 ?_|refine bdR ?_|refine bdL ?_)<;>(conv=>whnf))|(refine And.intro ?_ ?_;rotate_left;(conv=>whnf);rotate_right))
           all_goals first|omega|skip
           all_goals
             refine hN2 _ _ ?_
             conv=>whnf
             refine .to (z + 1) ⟨by omega,by omega⟩ (by show (1000 + ((i : Int) + 2) - (z + 1)).toNat < (1000 + ((i : Int) + 2) - z).toNat;omega) ?_
             conv=>whnf
             repeat' (first|exact trivial|((first|refine kL ?_|(refine ⟨fun hb=>?_,fun hb=>?_⟩<;>(try simp only [nrm] at hb)<;>(try (first|(exfalso;omega)|contradiction|exact kB hb)))|refine kW cfg_ok ?_|refine kC ?_|refine bdA ?_|refine bd2 ?_|refine bdR ?_|refine bdL ?_)<;>(conv=>whnf))|(refine And.intro ?_ ?_;rotate_left;(conv=>whnf);rotate_right))
             all_goals first|rfl|omega|trace_state
         · have hno:=ksI_no hzI
           conv=>whnf
           repeat' (first|exact trivial|((first|refine kL ?_|(refine ⟨fun hb=>?_,fun hb=>?_⟩<;>(try simp only [nrm] at hb)<;>(try (first|(exfalso;omega)|contradiction|exact kB hb)))|(rw [hks])|(rw [hno])|refine kW cfg_ok ?_|refine kC ?_|refine bdA ?_|refine bd2 ?_|refine bdR ?_|refine bdL ?_)<;>(conv=>whnf))|(refine And.intro ?_ ?_;rotate_left;(conv=>whnf);rotate_right))
           all_goals first|omega|skip
           all_goals
             refine hE2 _ _ _ ?_
             have hgn : (getK pid W.players z).isSome = false:=by
               cases hg : (getK pid W.players z).isSome with
               | false=>rfl
               | true=>exact absurd ((hP.has z).1 hg) hzI
             have hset:=setO_ev W hOW hP.rw z ((i : Int) % 8) ((i : Int) / 8 % 8) (List.replicate 8 ⟨0,0⟩) (some (Int.toNat 8)) rfl (plainP_sound (id:=z) (by omega) _ _) (pl_within hP.rw hP.size (by omega) (by omega)) hgn
             by_cases hl : I.length < 32
             · obtain ⟨s1,s2,s3⟩:=pl_step hP (id:=z) (x:=(i : Int) % 8) (y:=(i : Int) / 8 % 8) ⟨hz4,hz5⟩ (by omega) hzI hl (by omega) (by omega)
               change (setW W (plZ z ((i : Int) % 8) ((i : Int) / 8 % 8) (List.replicate 8 ⟨0,0⟩))).2 = 0 at s1
               change PlW _ _ (setW W (plZ z ((i : Int) % 8) ((i : Int) / 8 % 8) (List.replicate 8 ⟨0,0⟩))).1 at s2
               change playerW (setW W (plZ z ((i : Int) % 8) ((i : Int) / 8 % 8) (List.replicate 8 ⟨0,0⟩))).1 z = _ at s3
               rw [s1] at hset
               generalize (setW W (plZ z ((i : Int) % 8) ((i : Int) / 8 % 8) (List.replicate 8 ⟨0,0⟩))).1 = V at *
               have hrt:=rightW_api V (okW_rw s2.rw)
               rw [rightW_iff.2 s2.rw] at hrt
               have hpl:=wplayer_api V z (okW_rw s2.rw)
               rw [s3] at hpl
               have hsa:=lendPQ (c:=some (Int.toNat 8)) (api_weak (sameP_self (plainP z ((i : Int) % 8) ((i : Int) / 8 % 8)) (hOP z (by omega))) (.cons (le_pl z ((i : Int) % 8) ((i : Int) / 8 % 8) _) (.cons (Le.refl _) .nil))) rfl rfl
               conv=>whnf
               repeat' (first|exact trivial|((first|refine kL ?_|(refine ⟨fun hb=>?_,fun hb=>?_⟩<;>(try simp only [nrm] at hb)<;>(try (first|(exfalso;omega)|contradiction|exact kB hb)))|refine kE hset [(1,105)] rfl ?_|refine kF hset [(1,105)] rfl ?_|refine kE hsa [(1,105)] rfl ?_|refine kF hsa [(1,105)] rfl ?_|(rw [hks])|(rw [hno])|(rw [fgt_sn _ I z])|(rw [fgt_cs])|(rw [ksI_snoc])|refine kA hrt ?_|refine kD hrt ?_|refine kA hpl ?_|refine kD hpl ?_|refine kW cfg_ok ?_|refine kC ?_|refine bdA ?_|refine bd2 ?_|refine bdR ?_|refine bdL ?_)<;>(conv=>whnf))|(refine And.intro ?_ ?_;rotate_left;(conv=>whnf);rotate_right))
               all_goals first|omega|skip
               all_goals
                 refine hN1 _ _ ?_
                 conv=>whnf
                 refine .to (i + 1,I ++ [z],V) ⟨by show ((i + 1 : Nat) : Int) ≤ _;omega,by show PlW _ ((i + 1 : Nat) : Int) _;rw [show ((i + 1 : Nat) : Int) = (i : Int) + 1 by omega];exact s2⟩ (by show (28 + b % 9).toNat - (i + 1) < (28 + b % 9).toNat - i;omega) ?_
                 conv=>whnf
                 repeat' (first|exact trivial|((first|refine kL ?_|(refine ⟨fun hb=>?_,fun hb=>?_⟩<;>(try simp only [nrm] at hb)<;>(try (first|(exfalso;omega)|contradiction|exact kB hb)))|refine kW cfg_ok ?_|refine kC ?_|refine bdA ?_|refine bd2 ?_|refine bdR ?_|refine bdL ?_)<;>(conv=>whnf))|(refine And.intro ?_ ?_;rotate_left;(conv=>whnf);rotate_right))
                 all_goals first|rfl|omega|trace_state
             · have hf:=pl_full hP (id:=z) (x:=(i : Int) % 8) (y:=(i : Int) / 8 % 8) (by omega) hzI (by omega) (by omega) (by omega)
               change setW W (plZ z ((i : Int) % 8) ((i : Int) / 8 % 8) (List.replicate 8 ⟨0,0⟩)) = _ at hf
               rw [hf] at hset
               have hrt:=rightW_api W hOW
               rw [rightW_iff.2 hP.rw] at hrt
               conv=>whnf
               repeat' (first|exact trivial|((first|refine kL ?_|(refine ⟨fun hb=>?_,fun hb=>?_⟩<;>(try simp only [nrm] at hb)<;>(try (first|(exfalso;omega)|contradiction|exact kB hb)))|refine kE hset [(1,105)] rfl ?_|refine kF hset [(1,105)] rfl ?_|(rw [hks])|(rw [hno])|(rw [fgt_cs])|refine kA hrt ?_|refine kD hrt ?_|refine kW cfg_ok ?_|refine kC ?_|refine bdA ?_|refine bd2 ?_|refine bdR ?_|refine bdL ?_)<;>(conv=>whnf))|(refine And.intro ?_ ?_;rotate_left;(conv=>whnf);rotate_right))
               all_goals first|omega|skip
               all_goals
                 refine hN1 _ _ ?_
                 conv=>whnf
                 refine .to (i + 1,I,W) ⟨by show ((i + 1 : Nat) : Int) ≤ _;omega,by show PlW _ ((i + 1 : Nat) : Int) _;rw [show ((i + 1 : Nat) : Int) = (i : Int) + 1 by omega];exact pl_more hP⟩ (by show (28 + b % 9).toNat - (i + 1) < (28 + b % 9).toNat - i;omega) ?_
                 conv=>whnf
                 repeat' (first|exact trivial|((first|refine kL ?_|(refine ⟨fun hb=>?_,fun hb=>?_⟩<;>(try simp only [nrm] at hb)<;>(try (first|(exfalso;omega)|contradiction|exact kB hb)))|refine kW cfg_ok ?_|refine kC ?_|refine bdA ?_|refine bd2 ?_|refine bdR ?_|refine bdL ?_)<;>(conv=>whnf))|(refine And.intro ?_ ?_;rotate_left;(conv=>whnf);rotate_right))
                 all_goals first|rfl|omega|trace_state
     · clear hk
       subst he
       conv=>whnf
       repeat' (first|exact trivial|((first|refine kL ?_|(refine ⟨fun hb=>?_,fun hb=>?_⟩<;>(try simp only [nrm] at hb)<;>(try (first|(exfalso;omega)|contradiction|exact kB hb)))|refine kW cfg_ok ?_|refine kC ?_|refine bdA ?_|refine bd2 ?_|refine bdR ?_|refine bdL ?_)<;>(conv=>whnf))|(refine And.intro ?_ ?_;rotate_left;(conv=>whnf);rotate_right))
       all_goals first|omega|skip
       refine Runs.loopQ cfg_ok (σ:=Int) [1,5,7,8,9,26,27] (fun z=>[.vec .i64 ids,.ptr 10 0,.mp 44,i64 (i : Nat),i64 z,i64 (28 + b % 9),i64 (i : Nat)])
         (fun z=>[(10,.box (wldC W)),(44,.mp (ksI I) (csI I))])
         (fun z=>0 ≤ z ∧ z ≤ 1000 + ((i : Int) + 1)) (fun z=>(1000 + ((i : Int) + 2) - z).toNat) i ⟨by omega,by omega⟩ ?_ ?_
       · conv=>whnf
         repeat' (first|exact trivial|((first|refine kL ?_|(refine ⟨fun hb=>?_,fun hb=>?_⟩<;>(try simp only [nrm] at hb)<;>(try (first|(exfalso;omega)|contradiction|exact kB hb)))|refine kW cfg_ok ?_|refine kC ?_|refine bdA ?_|refine bd2 ?_|refine bdR ?_|refine bdL ?_)<;>(conv=>whnf))|(refine And.intro ?_ ?_;rotate_left;(conv=>whnf);rotate_right))
         all_goals first|rfl|omega|trace_state
       · rintro z ⟨hz4,hz5⟩ N2 hN2 hE2 hT2
         by_cases hzI : z ∈ I
         · obtain ⟨j,hj1,hj2⟩:=ksI_yes hzI
           have hbd:=hP.bd z hzI
           conv=>whnf
           repeat' (first|exact trivial|((first|refine kL ?_|(refine ⟨fun hb=>?_,fun hb=>?_⟩<;>(try simp only [nrm] at hb)<;>(try (first|(exfalso;omega)|contradiction|exact kB hb)))|(rw [hks])|(rw [hj1])|(rw [hj2])|refine kW cfg_ok ?_|refine kC ?_|refine bdA ?_|refine bd2 ?_|refine bdR ?_|refine bdL ?_)<;>(conv=>whnf))|(refine And.intro ?_ ?_;rotate_left;(conv=>whnf);rotate_right))
           all_goals first|omega|skip
           all_goals
             refine hN2 _ _ ?_
             conv=>whnf
             refine .to (z + 1) ⟨by omega,by omega⟩ (by show (1000 + ((i : Int) + 2) - (z + 1)).toNat < (1000 + ((i : Int) + 2) - z).toNat;omega) ?_
             conv=>whnf
             repeat' (first|exact trivial|((first|refine kL ?_|(refine ⟨fun hb=>?_,fun hb=>?_⟩<;>(try simp only [nrm] at hb)<;>(try (first|(exfalso;omega)|contradiction|exact kB hb)))|refine kW cfg_ok ?_|refine kC ?_|refine bdA ?_|refine bd2 ?_|refine bdR ?_|refine bdL ?_)<;>(conv=>whnf))|(refine And.intro ?_ ?_;rotate_left;(conv=>whnf);rotate_right))
             all_goals first|rfl|omega|trace_state
         · have hno:=ksI_no hzI
           conv=>whnf
           repeat' (first|exact trivial|((first|refine kL ?_|(refine ⟨fun hb=>?_,fun hb=>?_⟩<;>(try simp only [nrm] at hb)<;>(try (first|(exfalso;omega)|contradiction|exact kB hb)))|(rw [hks])|(rw [hno])|refine kW cfg_ok ?_|refine kC ?_|refine bdA ?_|refine bd2 ?_|refine bdR ?_|refine bdL ?_)<;>(conv=>whnf))|(refine And.intro ?_ ?_;rotate_left;(conv=>whnf);rotate_right))
           all_goals first|omega|skip
           all_goals
             refine hE2 _ _ _ ?_
             have hgn : (getK pid W.players z).isSome = false:=by
               cases hg : (getK pid W.players z).isSome with
               | false=>rfl
               | true=>exact absurd ((hP.has z).1 hg) hzI
             have hset:=setO_ev W hOW hP.rw z ((i : Int) % 8) ((i : Int) / 8 % 8) (List.replicate 8 ⟨0,0⟩) (some (Int.toNat 8)) rfl (plainP_sound (id:=z) (by omega) _ _) (pl_within hP.rw hP.size (by omega) (by omega)) hgn
             by_cases hl : I.length < 32
             · obtain ⟨s1,s2,s3⟩:=pl_step hP (id:=z) (x:=(i : Int) % 8) (y:=(i : Int) / 8 % 8) ⟨hz4,hz5⟩ (by omega) hzI hl (by omega) (by omega)
               change (setW W (plZ z ((i : Int) % 8) ((i : Int) / 8 % 8) (List.replicate 8 ⟨0,0⟩))).2 = 0 at s1
               change PlW _ _ (setW W (plZ z ((i : Int) % 8) ((i : Int) / 8 % 8) (List.replicate 8 ⟨0,0⟩))).1 at s2
               change playerW (setW W (plZ z ((i : Int) % 8) ((i : Int) / 8 % 8) (List.replicate 8 ⟨0,0⟩))).1 z = _ at s3
               rw [s1] at hset
               generalize (setW W (plZ z ((i : Int) % 8) ((i : Int) / 8 % 8) (List.replicate 8 ⟨0,0⟩))).1 = V at *
               have hrt:=rightW_api V (okW_rw s2.rw)
               rw [rightW_iff.2 s2.rw] at hrt
               have hpl:=wplayer_api V z (okW_rw s2.rw)
               rw [s3] at hpl
               have hsa:=lendPQ (c:=some (Int.toNat 8)) (api_weak (sameP_self (plainP z ((i : Int) % 8) ((i : Int) / 8 % 8)) (hOP z (by omega))) (.cons (le_pl z ((i : Int) % 8) ((i : Int) / 8 % 8) _) (.cons (Le.refl _) .nil))) rfl rfl
               conv=>whnf
               repeat' (first|exact trivial|((first|refine kL ?_|(refine ⟨fun hb=>?_,fun hb=>?_⟩<;>(try simp only [nrm] at hb)<;>(try (first|(exfalso;omega)|contradiction|exact kB hb)))|refine kE hset [(1,105)] rfl ?_|refine kF hset [(1,105)] rfl ?_|refine kE hsa [(1,105)] rfl ?_|refine kF hsa [(1,105)] rfl ?_|(rw [hks])|(rw [hno])|(rw [fgt_sn _ I z])|(rw [fgt_cs])|(rw [ksI_snoc])|refine kA hrt ?_|refine kD hrt ?_|refine kA hpl ?_|refine kD hpl ?_|refine kW cfg_ok ?_|refine kC ?_|refine bdA ?_|refine bd2 ?_|refine bdR ?_|refine bdL ?_)<;>(conv=>whnf))|(refine And.intro ?_ ?_;rotate_left;(conv=>whnf);rotate_right))
               all_goals first|omega|skip
               all_goals
                 refine hN1 _ _ ?_
                 conv=>whnf
                 refine .to (i + 1,I ++ [z],V) ⟨by show ((i + 1 : Nat) : Int) ≤ _;omega,by show PlW _ ((i + 1 : Nat) : Int) _;rw [show ((i + 1 : Nat) : Int) = (i : Int) + 1 by omega];exact s2⟩ (by show (28 + b % 9).toNat - (i + 1) < (28 + b % 9).toNat - i;omega) ?_
                 conv=>whnf
                 repeat' (first|exact trivial|((first|refine kL ?_|(refine ⟨fun hb=>?_,fun hb=>?_⟩<;>(try simp only [nrm] at hb)<;>(try (first|(exfalso;omega)|contradiction|exact kB hb)))|refine kW cfg_ok ?_|refine kC ?_|refine bdA ?_|refine bd2 ?_|refine bdR ?_|refine bdL ?_)<;>(conv=>whnf))|(refine And.intro ?_ ?_;rotate_left;(conv=>whnf);rotate_right))
                 all_goals first|rfl|omega|trace_state
             · have hf:=pl_full hP (id:=z) (x:=(i : Int) % 8) (y:=(i : Int) / 8 % 8) (by omega) hzI (by omega) (by omega) (by omega)
               change setW W (plZ z ((i : Int) % 8) ((i : Int) / 8 % 8) (List.replicate 8 ⟨0,0⟩)) = _ at hf
               rw [hf] at hset
               have hrt:=rightW_api W hOW
               rw [rightW_iff.2 hP.rw] at hrt
               conv=>whnf
               repeat' (first|exact trivial|((first|refine kL ?_|(refine ⟨fun hb=>?_,fun hb=>?_⟩<;>(try simp only [nrm] at hb)<;>(try (first|(exfalso;omega)|contradiction|exact kB hb)))|refine kE hset [(1,105)] rfl ?_|refine kF hset [(1,105)] rfl ?_|(rw [hks])|(rw [hno])|(rw [fgt_cs])|refine kA hrt ?_|refine kD hrt ?_|refine kW cfg_ok ?_|refine kC ?_|refine bdA ?_|refine bd2 ?_|refine bdR ?_|refine bdL ?_)<;>(conv=>whnf))|(refine And.intro ?_ ?_;rotate_left;(conv=>whnf);rotate_right))
               all_goals first|omega|skip
               all_goals
                 refine hN1 _ _ ?_
                 conv=>whnf
                 refine .to (i + 1,I,W) ⟨by show ((i + 1 : Nat) : Int) ≤ _;omega,by show PlW _ ((i + 1 : Nat) : Int) _;rw [show ((i + 1 : Nat) : Int) = (i : Int) + 1 by omega];exact pl_more hP⟩ (by show (28 + b % 9).toNat - (i + 1) < (28 + b % 9).toNat - i;omega) ?_
                 conv=>whnf
                 repeat' (first|exact trivial|((first|refine kL ?_|(refine ⟨fun hb=>?_,fun hb=>?_⟩<;>(try simp only [nrm] at hb)<;>(try (first|(exfalso;omega)|contradiction|exact kB hb)))|refine kW cfg_ok ?_|refine kC ?_|refine bdA ?_|refine bd2 ?_|refine bdR ?_|refine bdL ?_)<;>(conv=>whnf))|(refine And.intro ?_ ?_;rotate_left;(conv=>whnf);rotate_right))
                 all_goals first|rfl|omega|trace_state
   · conv=>whnf
     repeat' (first|exact trivial|((first|refine kL ?_|(refine ⟨fun hb=>?_,fun hb=>?_⟩<;>(try simp only [nrm] at hb)<;>(try (first|(exfalso;omega)|contradiction|exact kB hb)))|refine kW cfg_ok ?_|refine kC ?_|refine bdA ?_|refine bd2 ?_|refine bdR ?_|refine bdL ?_)<;>(conv=>whnf))|(refine And.intro ?_ ?_;rotate_left;(conv=>whnf);rotate_right))
     all_goals first|omega|skip
     all_goals
       refine hE1 _ _ _ ?_
       have hl1:=hP.len
       have hl2 : (ksI I).length = I.length:=List.length_map ..
       conv=>whnf
       repeat' (first|exact trivial|((first|refine kL ?_|(refine ⟨fun hb=>?_,fun hb=>?_⟩<;>(try simp only [nrm] at hb)<;>(try (first|(exfalso;omega)|contradiction|exact kB hb)))|refine kA haw ?_|refine kD haw ?_|refine kW cfg_ok ?_|refine kC ?_|refine bdA ?_|refine bd2 ?_|refine bdR ?_|refine bdL ?_)<;>(conv=>whnf))|(refine And.intro ?_ ?_;rotate_left;(conv=>whnf);rotate_right))
       all_goals first|rfl|omega|trace_state
open Go Go.RowKit Eng
theorem rd_nums : Reads Try.prog 22 1 (fun l : List (El .i64)=>[.vec .i64 l]) (fun l=>(∀ i ∈ l,fitI i) ∧ l.length * 8 ≤ 140737488351232):=reads_slice .i64 (by kernel_rfl) (by kernel_rfl) (by kernel_rfl) rd_int
theorem ag_nums : ArgOf Try.prog 22 (fun l : List (El .i64)=>.vec .i64 l) (fun l=>(∀ i ∈ l,fitI i) ∧ l.length * 8 ≤ 140737488351232):=arg_slice (e:=3) (by kernel_rfl) rd_nums
end Go.Proofs.Ytecbmeadcdchdaa
