/- path.Path. -/
import Derived.Test.YtchdgiooggdfeaaGg
import Derived.Test.YtchdgiooggdfeaaGc
set_option linter.unusedSimpArgs false
set_option linter.unusedVariables false
set_option maxRecDepth 100000
set_option maxHeartbeats 16000000
namespace Go.Proofs.Ytchdgiooggdfeaa
open Go Go.RowKit Eng
def zeroP : Player:=⟨0,0,0,[],0,[],false⟩
def playerW (w : Wld) (id : Int) : Player × Bool:=
 if rightW w = false then (zeroP,false) else match getK pid w.players id with
   | some p=>(p,true)
   | none=>(zeroP,false)
theorem wplayer_api (w : Wld) (id : Int) (hw : OkW w) : Api Try.prog 53 [wldV w,i64 id] (.tup [playerV (playerW w id).1,bol (playerW w id).2]):=by
 have hnp:=hw.np
 have hrt:=rightW_api w hw
 have hsk:=seek_api w id (by omega)
 cases hR : rightW w with
 | false =>
   rw [hR] at hrt
   have hs : playerW w id = (zeroP,false):=by unfold playerW;rw [if_pos hR]
   rw [hs]
   refine Api.of_fin cfg_ok Try.func53 rfl (nt:=25) rfl rfl ?_
   conv=>whnf
   repeat' (first|exact trivial|((first|refine kL ?_|(refine ⟨fun hb=>?_,fun hb=>?_⟩<;>(try simp only [nrm] at hb)<;>(try (first|(exfalso;omega)|contradiction|exact kB hb)))|refine kA hrt ?_|refine kD hrt ?_|refine kA hsk ?_|refine kD hsk ?_|refine kW cfg_ok ?_|refine kC ?_|refine bdA ?_|refine bd2 ?_|refine bdR ?_|refine bdL ?_)<;>(conv=>whnf))|(refine And.intro ?_ ?_;rotate_left;(conv=>whnf);rotate_right))
   all_goals first|rfl|trace_state
 | true =>
   rw [hR] at hrt
   obtain ⟨hri,_,_,_⟩:=rightW_players hR
   obtain ⟨e1,e2⟩:=bsP_rises hri id
   rw [e1,e2] at hsk
   cases hg : getK pid w.players id with
   | none =>
     rw [hg] at hsk
     have hs : playerW w id = (zeroP,false):=by unfold playerW;rw [if_neg (by rw [hR];simp),hg]
     rw [hs]
     refine Api.of_fin cfg_ok Try.func53 rfl (nt:=25) rfl rfl ?_
     conv=>whnf
     repeat' (first|exact trivial|((first|refine kL ?_|(refine ⟨fun hb=>?_,fun hb=>?_⟩<;>(try simp only [nrm] at hb)<;>(try (first|(exfalso;omega)|contradiction|exact kB hb)))|refine kA hrt ?_|refine kD hrt ?_|refine kA hsk ?_|refine kD hsk ?_|refine kW cfg_ok ?_|refine kC ?_|refine bdA ?_|refine bd2 ?_|refine bdR ?_|refine bdL ?_)<;>(conv=>whnf))|(refine And.intro ?_ ?_;rotate_left;(conv=>whnf);rotate_right))
     all_goals first|rfl|trace_state
   | some p =>
     rw [hg] at hsk
     have hs : playerW w id = (p,true):=by unfold playerW;rw [if_neg (by rw [hR];simp),hg]
     rw [hs]
     obtain ⟨h1,h2⟩:=lbK_lt hri hg
     have h3 : elt .player w.players (lbK pid id w.players) = p:=by
       have:=elt_get .player w.players _ h1
       rw [h2] at this
       exact (Option.some.inj this).symm
     have hal:=alone_api p (hw.players p (getK_mem hg).1)
     generalize lbK pid id w.players = at_ at *
     subst h3
     refine Api.of_fin cfg_ok Try.func53 rfl (nt:=25) rfl rfl ?_
     conv=>whnf
     repeat' (first|exact trivial|((first|refine kL ?_|(refine ⟨fun hb=>?_,fun hb=>?_⟩<;>(try simp only [nrm] at hb)<;>(try (first|(exfalso;omega)|contradiction|exact kB hb)))|refine kA hrt ?_|refine kD hrt ?_|refine kA hsk ?_|refine kD hsk ?_|refine kA hal ?_|refine kD hal ?_|refine kW cfg_ok ?_|refine kC ?_|refine bdA ?_|refine bd2 ?_|refine bdR ?_|refine bdL ?_)<;>(conv=>whnf))|(refine And.intro ?_ ?_;rotate_left;(conv=>whnf);rotate_right))
     all_goals first|omega|rfl|trace_state
open Go Go.RowKit Eng
abbrev PF:=Int → Int → Option Int
def putM (s : PF × Nat) (x y v : Int) : PF × Nat:=(setF s.1 x y v,cntF s.1 x y s.2)
def cellsA (cx cy : Int) (l : List Int) (s : PF × Nat) : Nat → PF × Nat
 | 0=>s
 | k + 1=>if elt .u8 l k = 0 then putM (cellsA cx cy l s k) (cx * 8 + (k : Int) % 8) (cy * 8 + (k : Int) / 8) 1 else cellsA cx cy l s k
def rowA (w : Wld) (cy x0 : Int) (s : PF × Nat) : Nat → PF × Nat
 | 0=>s
 | j + 1=>cellsA (x0 + j) cy (chunkW w (x0 + j) cy).1.cells (rowA w cy x0 s j) 64
def laidA (w : Wld) (x0 y0 : Int) (nx : Nat) : Nat → PF × Nat
 | 0=>(noF,0)
 | j + 1=>rowA w (y0 + j) x0 (laidA w x0 y0 nx j) nx
def cellAt (w : Wld) (a b : Int) : Int:=elt .u8 (chunkW w (a / 8) (b / 8)).1.cells (b % 8 * 8 + a % 8).toNat
theorem cellsA_get (cx cy : Int) (l : List Int) (s : PF × Nat) (a b : Int) : ∀ k : Nat,k ≤ 64 → (cellsA cx cy l s k).1 a b = if a / 8 = cx ∧ b / 8 = cy ∧ b % 8 * 8 + a % 8 < k ∧ elt .u8 l (b % 8 * 8 + a % 8).toNat = 0 then some 1 else s.1 a b:=by
 intro k
 induction k with
 | zero =>
   intro _
   have h : ¬ (a / 8 = cx ∧ b / 8 = cy ∧ b % 8 * 8 + a % 8 < ((0 : Nat) : Int) ∧ elt .u8 l (b % 8 * 8 + a % 8).toNat = 0):=by omega
   rw [if_neg h];rfl
 | succ k ih =>
   intro hk
   have ih:=ih (by omega)
   unfold cellsA
   by_cases he : elt .u8 l k = 0
   · rw [if_pos he]
     show setF _ _ _ _ a b = _
     unfold setF
     by_cases hab : a = cx * 8 + (k : Int) % 8 ∧ b = cy * 8 + (k : Int) / 8
     · rw [if_pos hab]
       have h1 : a / 8 = cx ∧ b / 8 = cy ∧ b % 8 * 8 + a % 8 = k:=by omega
       have h2 : (b % 8 * 8 + a % 8).toNat = k:=by omega
       rw [if_pos ⟨h1.1,h1.2.1,by omega,by rw [h2];exact he⟩]
     · rw [if_neg hab,ih]
       have h3 : a / 8 = cx ∧ b / 8 = cy → ¬ b % 8 * 8 + a % 8 = k:=fun h h'=>hab (by omega)
       by_cases hc : a / 8 = cx ∧ b / 8 = cy ∧ b % 8 * 8 + a % 8 < k ∧ elt .u8 l (b % 8 * 8 + a % 8).toNat = 0
       · rw [if_pos hc,if_pos ⟨hc.1,hc.2.1,by omega,hc.2.2.2⟩]
       · rw [if_neg hc,if_neg]
         rintro ⟨c1,c2,c3,c4⟩
         have:=h3 ⟨c1,c2⟩
         exact hc ⟨c1,c2,by omega,c4⟩
   · rw [if_neg he,ih]
     by_cases hc : a / 8 = cx ∧ b / 8 = cy ∧ b % 8 * 8 + a % 8 < k ∧ elt .u8 l (b % 8 * 8 + a % 8).toNat = 0
     · rw [if_pos hc,if_pos ⟨hc.1,hc.2.1,by omega,hc.2.2.2⟩]
     · rw [if_neg hc,if_neg]
       rintro ⟨c1,c2,c3,c4⟩
       by_cases hkk : b % 8 * 8 + a % 8 = k
       · have h2 : (b % 8 * 8 + a % 8).toNat = k:=by omega
         rw [h2] at c4;exact he c4
       · exact hc ⟨c1,c2,by omega,c4⟩
theorem rowA_get (w : Wld) (cy x0 : Int) (s : PF × Nat) (a b : Int) : ∀ j : Nat,(rowA w cy x0 s j).1 a b = if x0 ≤ a / 8 ∧ a / 8 < x0 + j ∧ b / 8 = cy ∧ cellAt w a b = 0 then some 1 else s.1 a b:=by
 intro j
 induction j with
 | zero=>unfold rowA;rw [if_neg];omega
 | succ j ih =>
   unfold rowA
   rw [cellsA_get _ _ _ _ _ _ 64 (Nat.le_refl _),ih]
   by_cases h : a / 8 = x0 + j ∧ b / 8 = cy
   · have hc : elt .u8 (chunkW w (x0 + j) cy).1.cells (b % 8 * 8 + a % 8).toNat = cellAt w a b:=by unfold cellAt;rw [h.1,h.2]
     rw [hc]
     by_cases hz : cellAt w a b = 0
     · rw [if_pos ⟨h.1,h.2,by omega,hz⟩,if_pos ⟨by omega,by omega,h.2,hz⟩]
     · rw [if_neg (fun e=>hz e.2.2.2),if_neg (fun e=>hz e.2.2.2),if_neg (fun e=>hz e.2.2.2)]
   · rw [if_neg (fun e=>h ⟨e.1,e.2.1⟩)]
     by_cases h2 : x0 ≤ a / 8 ∧ a / 8 < x0 + j ∧ b / 8 = cy ∧ cellAt w a b = 0
     · rw [if_pos h2,if_pos ⟨h2.1,by omega,h2.2.2⟩]
     · rw [if_neg h2,if_neg]
       rintro ⟨c1,c2,c3,c4⟩
       by_cases h3 : a / 8 = x0 + j
       · exact h ⟨h3,c3⟩
       · exact h2 ⟨c1,by omega,c3,c4⟩
theorem laidA_get (w : Wld) (x0 y0 : Int) (nx : Nat) (a b : Int) : ∀ j : Nat,(laidA w x0 y0 nx j).1 a b = if x0 ≤ a / 8 ∧ a / 8 < x0 + nx ∧ y0 ≤ b / 8 ∧ b / 8 < y0 + j ∧ cellAt w a b = 0 then some 1 else none:=by
 intro j
 induction j with
 | zero=>unfold laidA;rw [if_neg];rfl;omega
 | succ j ih =>
   unfold laidA
   rw [rowA_get,ih]
   by_cases h : x0 ≤ a / 8 ∧ a / 8 < x0 + nx ∧ b / 8 = y0 + j ∧ cellAt w a b = 0
   · rw [if_pos h,if_pos ⟨h.1,h.2.1,by omega,by omega,h.2.2.2⟩]
   · rw [if_neg h]
     by_cases h2 : x0 ≤ a / 8 ∧ a / 8 < x0 + nx ∧ y0 ≤ b / 8 ∧ b / 8 < y0 + j ∧ cellAt w a b = 0
     · rw [if_pos h2,if_pos ⟨h2.1,h2.2.1,h2.2.2.1,by omega,h2.2.2.2.2⟩]
     · rw [if_neg h2,if_neg]
       rintro ⟨c1,c2,c3,c4,c5⟩
       by_cases h3 : b / 8 = y0 + j
       · exact h ⟨c1,c2,h3,c5⟩
       · exact h2 ⟨c1,c2,c3,by omega,c5⟩
def stepsL : List Pos:=[⟨-1,-1⟩,⟨0,-1⟩,⟨1,-1⟩,⟨-1,0⟩,⟨1,0⟩,⟨-1,1⟩,⟨0,1⟩,⟨1,1⟩]
def addP (b s : Pos) : Pos:=⟨b.x + s.x,b.y + s.y⟩
def subP (b s : Pos) : Pos:=⟨b.x - s.x,b.y - s.y⟩
def airP (A : PF) (b : Pos) : Prop:=getZ (A b.x b.y) = 1
def okP (A : PF) (bg b : Pos) : Prop:=getZ (A b.x b.y) = 1 ∨ (b.x = bg.x ∧ b.y = bg.y)
instance (A : PF) (bg b : Pos) : Decidable (okP A bg b):=inferInstanceAs (Decidable (_ ∨ _))
def candB (A : PF) (bg : Pos) (n : Int) (st : (PF × Nat) × List Pos) (b : Pos) : (PF × Nat) × List Pos:=
 if (st.1.1 b.x b.y).isSome = true ∨ ¬ okP A bg b then st
 else (putM st.1 b.x b.y n,if getZ (A b.x b.y) = 1 then st.2 ++ [b] else st.2)
def roundR (A : PF) (bg : Pos) (n : Int) (ring : List Pos) (off : PF × Nat) : (PF × Nat) × List Pos:=
 ring.foldl (fun st c=>stepsL.foldl (fun st s=>candB A bg n st (subP c s)) st) (off,[])
def roundsP (A : PF) (e bg : Pos) : Nat → (PF × Nat) × List Pos
 | 0=>(putM (noF,0) e.x e.y 0,[e])
 | n + 1=>roundR A bg ((n + 1 : Nat) : Int) (roundsP A e bg n).2 (roundsP A e bg n).1
def spreadP (A : PF) (e bg : Pos) (n : Nat) : Nat → Nat × Bool
 | 0=>(n,false)
 | f + 1=>if (roundsP A e bg n).2 = [] then (n,false) else if ((roundsP A e bg (n + 1)).1.1 bg.x bg.y).isSome = true then (n + 1,true) else spreadP A e bg (n + 1) f
open Go Go.RowKit Eng
def WW (air : Pos → Prop) (e : Pos) : Nat → Pos → Prop
 | 0,b=>b = e
 | n + 1,b=>∃ s ∈ stepsL,air (addP b s) ∧ WW air e n (addP b s)
def fst (air : Pos → Prop) (e : Pos) (n : Nat) (b : Pos) : Prop:=WW air e n b ∧ ∀ m < n,¬ WW air e m b
theorem pos_ext {a b : Pos} (h1 : a.x = b.x) (h2 : a.y = b.y) : a = b:=by cases a;cases b;simp_all
theorem add_sub (c s : Pos) : addP (subP c s) s = c:=pos_ext (by simp [addP,subP]) (by simp [addP,subP])
theorem sub_add (c s : Pos) : subP (addP c s) s = c:=pos_ext (by simp [addP,subP]) (by simp [addP,subP])
theorem WW_least {air : Pos → Prop} {e b : Pos} : ∀ {n : Nat},WW air e n b → ∃ m,m ≤ n ∧ fst air e m b:=by
 intro n
 induction n using Nat.strongRecOn with
 | _ n ih =>
   intro h
   by_cases hx : ∃ m,m < n ∧ WW air e m b
   · obtain ⟨m,hm,hw⟩:=hx
     obtain ⟨k,hk,hf⟩:=ih m hm hw
     exact ⟨k,by omega,hf⟩
   · exact ⟨n,Nat.le_refl n,h,fun m hm hw=>hx ⟨m,hm,hw⟩⟩
theorem fst_one {air : Pos → Prop} {e b : Pos} {m n : Nat} (h1 : fst air e m b) (h2 : fst air e n b) : m = n:=by
 rcases Nat.lt_trichotomy m n with h|h|h
 · exact absurd h1.1 (h2.2 m h)
 · exact h
 · exact absurd h2.1 (h1.2 n h)
theorem fst_zero {air : Pos → Prop} {e : Pos} : fst air e 0 e:=⟨rfl,fun m hm=>by omega⟩
theorem fst_step {air : Pos → Prop} {e b : Pos} {n : Nat} (h : fst air e (n + 1) b) : ∃ s ∈ stepsL,air (addP b s) ∧ fst air e n (addP b s):=by
 obtain ⟨s,hs,ha,hw⟩:=h.1
 exact ⟨s,hs,ha,hw,fun m hm hw2=>h.2 (m + 1) (by omega) ⟨s,hs,ha,hw2⟩⟩
theorem fst_of_step {air : Pos → Prop} {e b : Pos} {n : Nat} (hn : ∀ m,m ≤ n → ¬ fst air e m b) {s : Pos} (hs : s ∈ stepsL) (ha : air (addP b s)) (hf : fst air e n (addP b s)) : fst air e (n + 1) b:=
 ⟨⟨s,hs,ha,hf.1⟩,fun m hm hw=>by
   obtain ⟨k,hk,hf⟩:=WW_least hw
   exact hn k (by omega) hf⟩
theorem fst_down {air : Pos → Prop} {e : Pos} (n : Nat) : ∀ {j : Nat} {b : Pos},fst air e (n + (j + 1)) b → ∃ c,air c ∧ fst air e n c:=by
 intro j
 induction j with
 | zero=>intro b h;obtain ⟨s,_,ha,hf⟩:=fst_step (n:=n) h;exact ⟨_,ha,hf⟩
 | succ j ih =>
   intro b h
   obtain ⟨s,_,ha,hf⟩:=fst_step (n:=n + (j + 1)) h
   exact ih hf
open Classical in
theorem cand_off {A : PF} {bg : Pos} {n : Int} (L : List Pos) : ∀ (st : (PF × Nat) × List Pos) (b : Pos),(L.foldl (candB A bg n) st).1.1 b.x b.y = (match st.1.1 b.x b.y with|some d=>some d|none=>if (b ∈ L ∧ okP A bg b) then some n else none):=by
 induction L with
 | nil=>intro st b;simp;cases st.1.1 b.x b.y<;>rfl
 | cons c r ih =>
   intro st b
   rw [List.foldl_cons,ih]
   unfold candB
   by_cases hc : (st.1.1 c.x c.y).isSome = true ∨ ¬ okP A bg c
   · rw [if_pos hc]
     cases hb : st.1.1 b.x b.y with
     | some d=>rfl
     | none =>
       simp only []
       by_cases hbc : b = c
       · subst hbc
         have hno : ¬ okP A bg b:=by rcases hc with h|h;rw [hb] at h;simp at h;exact h
         rw [if_neg (fun h=>hno h.2),if_neg (fun h=>hno h.2)]
       · congr 1
         simp [hbc]
   · rw [if_neg hc]
     have hc1 : st.1.1 c.x c.y = none:=by
       cases h : st.1.1 c.x c.y with
       | none=>rfl
       | some d=>exact absurd (.inl (by rw [h];rfl)) hc
     have hc2 : okP A bg c:=Classical.byContradiction fun h=>hc (.inr h)
     show (match setF st.1.1 c.x c.y n b.x b.y with|some d=>some d|none=>_) = _
     unfold setF
     by_cases hbc : b.x = c.x ∧ b.y = c.y
     · have : b = c:=pos_ext hbc.1 hbc.2
       subst this
       rw [if_pos hbc,hc1]
       simp only
       rw [if_pos ⟨List.mem_cons_self ..,hc2⟩]
     · rw [if_neg hbc]
       have hne : ¬ b = c:=fun h=>hbc (by rw [h];exact ⟨rfl,rfl⟩)
       cases hb : st.1.1 b.x b.y with
       | some d=>rfl
       | none =>
         simp only
         congr 1
         simp [hne]
theorem cand_next {A : PF} {bg : Pos} {n : Int} (L : List Pos) : ∀ (st : (PF × Nat) × List Pos) (b : Pos),b ∈ (L.foldl (candB A bg n) st).2 ↔ b ∈ st.2 ∨ (st.1.1 b.x b.y = none ∧ b ∈ L ∧ getZ (A b.x b.y) = 1):=by
 induction L with
 | nil=>intro st b;simp
 | cons c r ih =>
   intro st b
   rw [List.foldl_cons,ih]
   unfold candB
   by_cases hc : (st.1.1 c.x c.y).isSome = true ∨ ¬ okP A bg c
   · rw [if_pos hc]
     constructor
     · rintro (h|⟨h1,h2,h3⟩)
       · exact .inl h
       · exact .inr ⟨h1,List.mem_cons_of_mem _ h2,h3⟩
     · rintro (h|⟨h1,h2,h3⟩)
       · exact .inl h
       · rcases List.mem_cons.1 h2 with rfl|h2
         · exfalso
           rcases hc with h|h
           · rw [h1] at h;simp at h
           · exact h (.inl h3)
         · exact .inr ⟨h1,h2,h3⟩
   · rw [if_neg hc]
     have hc1 : st.1.1 c.x c.y = none:=by
       cases h : st.1.1 c.x c.y with
       | none=>rfl
       | some d=>exact absurd (.inl (by rw [h];rfl)) hc
     have hset : setF st.1.1 c.x c.y n b.x b.y = if b.x = c.x ∧ b.y = c.y then some n else st.1.1 b.x b.y:=rfl
     by_cases hbc : b = c
     · subst hbc
       by_cases h1 : getZ (A b.x b.y) = 1
       · simp [h1,hc1]
       · simp [h1]
     · have hne : ¬ (b.x = c.x ∧ b.y = c.y):=fun h=>hbc (pos_ext h.1 h.2)
       show b ∈ (if getZ (A c.x c.y) = 1 then st.2 ++ [c] else st.2) ∨ (setF st.1.1 c.x c.y n b.x b.y = none ∧ b ∈ r ∧ getZ (A b.x b.y) = 1) ↔ _
       rw [hset,if_neg hne]
       have hm : b ∈ (if getZ (A c.x c.y) = 1 then st.2 ++ [c] else st.2) ↔ b ∈ st.2:=by split<;>simp [hbc]
       rw [hm]
       simp [hbc]
def askL (ring : List Pos) : List Pos:=ring.flatMap fun c=>stepsL.map fun s=>subP c s
theorem mem_ask {ring : List Pos} {b : Pos} : b ∈ askL ring ↔ ∃ s ∈ stepsL,addP b s ∈ ring:=by
 unfold askL
 rw [List.mem_flatMap]
 constructor
 · rintro ⟨c,hc,hb⟩
   obtain ⟨s,hs,rfl⟩:=List.mem_map.1 hb
   exact ⟨s,hs,by rw [add_sub];exact hc⟩
 · rintro ⟨s,hs,hc⟩
   exact ⟨_,hc,List.mem_map.2 ⟨s,hs,sub_add b s⟩⟩
theorem round_ask {A : PF} {bg : Pos} {n : Int} {ring : List Pos} {st : (PF × Nat) × List Pos} : ring.foldl (fun st c=>stepsL.foldl (fun st s=>candB A bg n st (subP c s)) st) st = (askL ring).foldl (candB A bg n) st:=by
 induction ring generalizing st with
 | nil=>rfl
 | cons c r ih =>
   unfold askL
   rw [List.foldl_cons,ih,List.flatMap_cons,List.foldl_append,List.foldl_map]
   rfl
structure Inv (A : PF) (e bg : Pos) (n : Nat) (off : PF) (ring : List Pos) : Prop where
 off : ∀ b d,off b.x b.y = some d ↔ ∃ m : Nat,d = m ∧ m ≤ n ∧ fst (airP A) e m b ∧ okP A bg b
 ring : ∀ b,b ∈ ring ↔ airP A b ∧ fst (airP A) e n b
theorem inv_zero {A : PF} {e bg : Pos} (he : airP A e) : Inv A e bg 0 (setF noF e.x e.y 0) [e]:=by
 refine ⟨fun b d=>?_,fun b=>?_⟩
 · unfold setF
   constructor
   · intro h
     by_cases hb : b.x = e.x ∧ b.y = e.y
     · rw [if_pos hb] at h
       have : b = e:=pos_ext hb.1 hb.2
       subst this
       exact ⟨0,by simpa using h.symm,Nat.le_refl 0,fst_zero,.inl he⟩
     · rw [if_neg hb] at h;cases h
   · rintro ⟨m,hd,hm,hf,_⟩
     obtain rfl : m = 0:=by omega
     have : b = e:=hf.1
     rw [if_pos (by rw [this];exact ⟨rfl,rfl⟩),hd];rfl
 · rw [List.mem_singleton]
   exact ⟨fun h=>by rw [h];exact ⟨he,fst_zero⟩,fun h=>h.2.1⟩
theorem inv_succ {A : PF} {e bg : Pos} {n : Nat} {off : PF × Nat} {ring : List Pos} (h : Inv A e bg n off.1 ring) : Inv A e bg (n + 1) (roundR A bg (n + 1 : Nat) ring off).1.1 (roundR A bg (n + 1 : Nat) ring off).2:=by
 unfold roundR
 rw [round_ask]
 have known : ∀ b,okP A bg b → (off.1 b.x b.y = none ↔ ∀ m,m ≤ n → ¬ fst (airP A) e m b):=fun b hok=>by
   constructor
   · intro hn m hm hf
     have:=(h.off b m).2 ⟨m,rfl,hm,hf,hok⟩
     rw [hn] at this;cases this
   · intro hn
     cases hb : off.1 b.x b.y with
     | none=>rfl
     | some d =>
       obtain ⟨m,_,hm,hf,_⟩:=(h.off b d).1 hb
       exact absurd hf (hn m hm)
 have step : ∀ b,okP A bg b → off.1 b.x b.y = none → (b ∈ askL ring ↔ fst (airP A) e (n + 1) b):=fun b hok hn=>by
   rw [mem_ask]
   constructor
   · rintro ⟨s,hs,hr⟩
     obtain ⟨ha,hf⟩:=(h.ring _).1 hr
     exact fst_of_step ((known b hok).1 hn) hs ha hf
   · intro hf
     obtain ⟨s,hs,ha,hf2⟩:=fst_step hf
     exact ⟨s,hs,(h.ring _).2 ⟨ha,hf2⟩⟩
 refine ⟨fun b d=>?_,fun b=>?_⟩
 · rw [cand_off]
   cases hb : off.1 b.x b.y with
   | some d2 =>
     simp only
     obtain ⟨m,hd,hm,hf,hok⟩:=(h.off b d2).1 hb
     constructor
     · intro he;cases he;exact ⟨m,hd,by omega,hf,hok⟩
     · rintro ⟨m2,hd2,_,hf2,_⟩
       rw [hd2,fst_one hf2 hf,hd]
   | none =>
     simp only
     constructor
     · intro he
       split at he
       · rename_i hc
         cases he
         exact ⟨n + 1,rfl,Nat.le_refl _,(step b hc.2 hb).1 hc.1,hc.2⟩
       · cases he
     · rintro ⟨m,hd,hm,hf,hok⟩
       have : m = n + 1:=by
         rcases Nat.lt_or_ge n m with h1|h1
         · omega
         · exact absurd hf ((known b hok).1 hb m h1)
       subst this
       rw [if_pos ⟨(step b hok hb).2 hf,hok⟩,hd]
 · rw [cand_next]
   simp only [List.not_mem_nil,false_or]
   constructor
   · rintro ⟨h1,h2,h3⟩
     have hok : okP A bg b:=.inl h3
     exact ⟨h3,(step b hok h1).1 h2⟩
   · rintro ⟨ha,hf⟩
     have hok : okP A bg b:=.inl ha
     have hn : off.1 b.x b.y = none:=(known b hok).2 fun m hm hf2=>by have:=fst_one hf hf2;omega
     exact ⟨hn,(step b hok hn).2 hf,ha⟩
theorem inv_rounds {A : PF} {e bg : Pos} (he : airP A e) : ∀ n,Inv A e bg n (roundsP A e bg n).1.1 (roundsP A e bg n).2:=by
 intro n
 induction n with
 | zero=>exact inv_zero he
 | succ n ih=>exact inv_succ ih
theorem spread_le {A : PF} {e bg : Pos} : ∀ (f n : Nat),n ≤ (spreadP A e bg n f).1 ∧ (spreadP A e bg n f).1 ≤ n + f:=by
 intro f
 induction f with
 | zero=>intro n;unfold spreadP;exact ⟨Nat.le_refl _,Nat.le_refl _⟩
 | succ f ih =>
   intro n
   unfold spreadP
   split
   · exact ⟨Nat.le_refl _,by omega⟩
   · split
     · exact ⟨by show n ≤ n + 1;omega,by show n + 1 ≤ _;omega⟩
     · have:=ih (n + 1);omega
theorem spread_true {A : PF} {e bg : Pos} (he : airP A e) : ∀ (f n : Nat),(∀ m,m ≤ n → ¬ fst (airP A) e m bg) → (spreadP A e bg n f).2 = true → fst (airP A) e (spreadP A e bg n f).1 bg:=by
 intro f
 induction f with
 | zero=>intro n _ h;unfold spreadP at h;cases h
 | succ f ih =>
   intro n hn h
   unfold spreadP at h ⊢
   split at h
   · cases h
   · rename_i hr
     rw [if_neg hr]
     split at h
     · rename_i hk
       rw [if_pos hk]
       obtain ⟨d,hd⟩:=Option.isSome_iff_exists.1 hk
       obtain ⟨m,_,hm,hf,_⟩:=((inv_rounds he (n + 1)).off bg d).1 hd
       have : m = n + 1:=by
         rcases Nat.lt_or_ge n m with h1|h1
         · omega
         · exact absurd hf (hn m h1)
       subst this;exact hf
     · rename_i hk
       rw [if_neg hk]
       refine ih (n + 1) (fun m hm hf=>hk ?_) h
       have:=((inv_rounds (bg:=bg) he (n + 1)).off bg m).2 ⟨m,rfl,hm,hf,.inr ⟨rfl,rfl⟩⟩
       rw [this];rfl
theorem spread_false {A : PF} {e bg : Pos} (he : airP A e) : ∀ (f n : Nat),(∀ m,m ≤ n → ¬ fst (airP A) e m bg) → (spreadP A e bg n f).2 = false → ∀ m,m ≤ n + f → ¬ fst (airP A) e m bg:=by
 intro f
 induction f with
 | zero=>intro n hn _ m hm;exact hn m hm
 | succ f ih =>
   intro n hn h m hm hf
   unfold spreadP at h
   split at h
   · rename_i hr
     rcases Nat.lt_or_ge n m with h1|h1
     · obtain ⟨j,rfl⟩ : ∃ j,m = n + (j + 1):=⟨m - n - 1,by omega⟩
       obtain ⟨c,ha,hc⟩:=fst_down n hf
       have:=((inv_rounds (bg:=bg) he n).ring c).2 ⟨ha,hc⟩
       rw [hr] at this
       cases this
     · exact hn m h1 hf
   · split at h
     · cases h
     · rename_i hk
       refine ih (n + 1) (fun m hm hf=>hk ?_) h m (by omega) hf
       have:=((inv_rounds (bg:=bg) he (n + 1)).off bg m).2 ⟨m,rfl,hm,hf,.inr ⟨rfl,rfl⟩⟩
       rw [this];rfl
def nextOf (p : Pos → Prop) (s : Pos) : Prop:=∃ k : Nat,stepsL[k]? = some s ∧ p s ∧ ∀ j s',j < k → stepsL[j]? = some s' → ¬ p s'
theorem nextOf_one {p q : Pos → Prop} (h : ∀ s,p s ↔ q s) {s s' : Pos} (h1 : nextOf p s) (h2 : nextOf q s') : s = s':=by
 obtain ⟨k,a1,a2,a3⟩:=h1
 obtain ⟨j,b1,b2,b3⟩:=h2
 rcases Nat.lt_trichotomy k j with hl|hl|hl
 · exact absurd ((h s).1 a2) (b3 k s hl a1)
 · subst hl;rw [a1] at b1;exact Option.some.inj b1
 · exact absurd ((h s').2 b2) (a3 j s' hl b1)
def Told (air : Pos → Prop) (e : Pos) : Nat → Pos → List Pos → Prop
 | 0,_,l=>l = []
 | d + 1,c,l=>∃ s r,l = s :: r ∧ nextOf (fun s=>air (addP c s) ∧ fst air e d (addP c s)) s ∧ Told air e d (addP c s) r
theorem told_one {air : Pos → Prop} {e : Pos} : ∀ {d : Nat} {c : Pos} {l l' : List Pos},Told air e d c l → Told air e d c l' → l = l':=by
 intro d
 induction d with
 | zero=>intro c l l' h h';rw [h,h']
 | succ d ih =>
   intro c l l' h h'
   obtain ⟨s,r,rfl,hs,ht⟩:=h
   obtain ⟨s',r',rfl,hs',ht'⟩:=h'
   obtain rfl:=nextOf_one (fun _=>Iff.rfl) hs hs'
   rw [ih ht ht']
theorem told_len {air : Pos → Prop} {e : Pos} : ∀ {d : Nat} {c : Pos} {l : List Pos},Told air e d c l → l.length = d:=by
 intro d
 induction d with
 | zero=>intro c l h;rw [h];rfl
 | succ d ih=>intro c l h;obtain ⟨s,r,rfl,_,ht⟩:=h;rw [List.length_cons,ih ht]
theorem told_off {A : PF} {e bg : Pos} {n d : Nat} {off : PF} {ring : List Pos} (h : Inv A e bg n off ring) (hd : d ≤ n) (c s : Pos) : (∃ z,off (addP c s).x (addP c s).y = some z ∧ z = d) ∧ getZ (A (addP c s).x (addP c s).y) = 1 ↔ airP A (addP c s) ∧ fst (airP A) e d (addP c s):=by
 constructor
 · rintro ⟨⟨z,hz,rfl⟩,ha⟩
   obtain ⟨m,hm,_,hf,_⟩:=(h.off _ _).1 hz
   have : m = d:=by omega
   subst this
   exact ⟨ha,hf⟩
 · rintro ⟨ha,hf⟩
   exact ⟨⟨d,(h.off _ _).2 ⟨d,rfl,hd,hf,.inl ha⟩,rfl⟩,ha⟩
theorem steps_bd {s : Pos} (h : s ∈ stepsL) : -1 ≤ s.x ∧ s.x ≤ 1 ∧ -1 ≤ s.y ∧ s.y ≤ 1:=by
 simp only [stepsL,List.mem_cons,List.not_mem_nil,or_false] at h
 rcases h with rfl|rfl|rfl|rfl|rfl|rfl|rfl|rfl<;>decide
theorem WW_near {air : Pos → Prop} {e : Pos} : ∀ {n : Nat} {b : Pos},WW air e n b → e.x - n ≤ b.x ∧ b.x ≤ e.x + n ∧ e.y - n ≤ b.y ∧ b.y ≤ e.y + n:=by
 intro n
 induction n with
 | zero=>intro b h;have : b = e:=h;subst this;omega
 | succ n ih =>
   intro b h
   obtain ⟨s,hs,_,hw⟩:=h
   have h1:=ih hw
   have h2:=steps_bd hs
   have h3 : (addP b s).x = b.x + s.x:=rfl
   have h4 : (addP b s).y = b.y + s.y:=rfl
   omega
theorem WW_part {air air' : Pos → Prop} {e : Pos} {most : Nat} (h : ∀ b : Pos,e.x - most ≤ b.x ∧ b.x ≤ e.x + most ∧ e.y - most ≤ b.y ∧ b.y ≤ e.y + most → (air b ↔ air' b)) : ∀ {n : Nat} {b : Pos},n ≤ most + 1 → (WW air e n b ↔ WW air' e n b):=by
 intro n
 induction n with
 | zero=>intro b _;exact Iff.rfl
 | succ n ih =>
   intro b hn
   constructor
   · rintro ⟨s,hs,ha,hw⟩
     have hb:=WW_near hw
     exact ⟨s,hs,(h _ (by omega)).1 ha,(ih (by omega)).1 hw⟩
   · rintro ⟨s,hs,ha,hw⟩
     have hb:=WW_near hw
     exact ⟨s,hs,(h _ (by omega)).2 ha,(ih (by omega)).2 hw⟩
theorem fst_part {air air' : Pos → Prop} {e : Pos} {most : Nat} (h : ∀ b : Pos,e.x - most ≤ b.x ∧ b.x ≤ e.x + most ∧ e.y - most ≤ b.y ∧ b.y ≤ e.y + most → (air b ↔ air' b)) {n : Nat} {b : Pos} (hn : n ≤ most + 1) : fst air e n b ↔ fst air' e n b:=by
 unfold fst
 rw [WW_part h hn]
 constructor
 · rintro ⟨h1,h2⟩;exact ⟨h1,fun m hm hw=>h2 m hm ((WW_part h (by omega)).2 hw)⟩
 · rintro ⟨h1,h2⟩;exact ⟨h1,fun m hm hw=>h2 m hm ((WW_part h (by omega)).1 hw)⟩
theorem nextOf_congr {p q : Pos → Prop} (h : ∀ s ∈ stepsL,(p s ↔ q s)) {s : Pos} (hp : nextOf p s) : nextOf q s:=by
 obtain ⟨k,a1,a2,a3⟩:=hp
 exact ⟨k,a1,(h s (List.mem_of_getElem? a1)).1 a2,fun j s' hj hs hq=>a3 j s' hj hs ((h s' (List.mem_of_getElem? hs)).2 hq)⟩
theorem told_part {air air' : Pos → Prop} {e : Pos} {most : Nat} (h : ∀ b : Pos,e.x - most ≤ b.x ∧ b.x ≤ e.x + most ∧ e.y - most ≤ b.y ∧ b.y ≤ e.y + most → (air b ↔ air' b)) : ∀ {d : Nat} {c : Pos} {l : List Pos},d ≤ most + 1 → Told air e d c l → Told air' e d c l:=by
 intro d
 induction d with
 | zero=>intro c l _ h;exact h
 | succ d ih =>
   intro c l hd ht
   obtain ⟨s,r,rfl,hs,ht⟩:=ht
   refine ⟨s,r,rfl,nextOf_congr (fun s _=>?_) hs,ih (by omega) ht⟩
   constructor
   · rintro ⟨ha,hf⟩
     have hb:=WW_near hf.1
     exact ⟨(h _ (by omega)).1 ha,(fst_part h (by omega)).1 hf⟩
   · rintro ⟨ha,hf⟩
     have hb:=WW_near hf.1
     exact ⟨(h _ (by omega)).2 ha,(fst_part h (by omega)).2 hf⟩
open Go Go.RowKit Eng
abbrev stepsV : AV:=.agg [i64 (-1),i64 (-1),i64 0,i64 (-1),i64 1,i64 (-1),i64 (-1),i64 0,i64 1,i64 0,i64 (-1),i64 1,i64 0,i64 1,i64 1,i64 1]
theorem steps_api  : Api Try.prog 91 [] stepsV:=by
 refine Api.of_fin cfg_ok Try.func91 rfl (nt:=10) rfl rfl ?_
 conv=>whnf
 repeat' (first|exact trivial|((first|refine kL ?_|(refine ⟨fun hb=>?_,fun hb=>?_⟩<;>(try simp only [nrm] at hb)<;>(try (first|(exfalso;omega)|contradiction|exact kB hb)))|refine kW cfg_ok ?_|refine kC ?_|refine bdA ?_|refine bd2 ?_|refine bdR ?_|refine bdL ?_)<;>(conv=>whnf))|(refine And.intro ?_ ?_;rotate_left;(conv=>whnf);rotate_right))
 all_goals first|rfl|trace_state
theorem pfrom_api (c s : Pos) (hc : -1000 ≤ c.x ∧ c.x ≤ 1000 ∧ -1000 ≤ c.y ∧ c.y ≤ 1000) (hs : -1 ≤ s.x ∧ s.x ≤ 1 ∧ -1 ≤ s.y ∧ s.y ≤ 1) : Api Try.prog 90 [.agg [i64 c.x,i64 c.y],.agg [i64 s.x,i64 s.y]] (.agg [i64 (c.x - s.x),i64 (c.y - s.y)]):=by
 refine Api.of_fin cfg_ok Try.func90 rfl (nt:=14) rfl rfl ?_
 conv=>whnf
 repeat' (first|exact trivial|((first|refine kL ?_|(refine ⟨fun hb=>?_,fun hb=>?_⟩<;>(try simp only [nrm] at hb)<;>(try (first|(exfalso;omega)|contradiction|exact kB hb)))|refine kW cfg_ok ?_|refine kC ?_|refine bdA ?_|refine bd2 ?_|refine bdR ?_|refine bdL ?_)<;>(conv=>whnf))|(refine And.intro ?_ ?_;rotate_left;(conv=>whnf);rotate_right))
 all_goals first|rfl|omega|trace_state
theorem laidA_succ (w : Wld) (x0 y0 : Int) (nx j : Nat) : laidA w x0 y0 nx (j + 1) = rowA w (y0 + j) x0 (laidA w x0 y0 nx j) nx:=rfl
theorem rowA_succ (w : Wld) (cy x0 : Int) (s : PF × Nat) (j : Nat) : rowA w cy x0 s (j + 1) = cellsA (x0 + j) cy (chunkW w (x0 + j) cy).1.cells (rowA w cy x0 s j) 64:=rfl
theorem plaid_ev (w : Wld) (c : Pos) (most : Int) (hw : OkW w) (hR : RW w) (hc : 0 ≤ c.x ∧ c.x ≤ 1000 ∧ 0 ≤ c.y ∧ c.y ≤ 1000) (hm : 0 ≤ most ∧ most ≤ 64) (x0 y0 : Int) (nx ny : Nat) (hx0 : x0 = max (c.x - most) 0 / 8) (hy0 : y0 = max (c.y - most) 0 / 8) (hnx : nx = (min ((c.x + most) / 8) (w.size - 1) + 1 - x0).toNat) (hny : ny = (min ((c.y + most) / 8) (w.size - 1) + 1 - y0).toNat) :
   Ev1 Try.prog 54 [wldV w,.agg [i64 c.x,i64 c.y],i64 most] [] (.mp 390001) [(390001,.pm .i64 (laidA w x0 y0 nx ny).1 (laidA w x0 y0 nx ny).2)]:=by
 have hsz:=hR.size
 have hch : ∀ x y : Int,0 ≤ x → x < w.size → 0 ≤ y → y < w.size → Api Try.prog 19 [wldV w,i64 x,i64 y] (.tup [chunkV (chunkW w x y).1,bol true]) ∧ (chunkW w x y).1.cells.length = 64:=fun x y h1 h2 h3 h4=>by
   have h:=wchunk_api w x y hw
   have h5:=(chunkW_in hR ⟨h1,h2⟩ ⟨h3,h4⟩).1
   have h6 : (chunkW w x y).2 = true:=by rw [h5]
   rw [h6] at h
   exact ⟨h,chunkW_len h6⟩
 refine Ev1.of_finR cfg_ok Try.func54 rfl [(200028,390001)] (nt:=81) rfl ?_
 conv=>whnf
 repeat' (first|exact trivial|((first|refine kL ?_|(refine ⟨fun hb=>?_,fun hb=>?_⟩<;>(try simp only [nrm] at hb)<;>(try (first|(exfalso;omega)|contradiction|exact kB hb)))|refine kW cfg_ok ?_|refine kC ?_|refine bdA ?_|refine bd2 ?_|refine bdR ?_|refine bdL ?_)<;>(conv=>whnf))|(refine And.intro ?_ ?_;rotate_left;(conv=>whnf);rotate_right))
 all_goals first|omega|skip
 refine Runs.loopQ cfg_ok (σ:=Nat) [2,3,4,7,8] (fun j=>[i64 most,.ptr 200006 0,.ptr 200008 0,.mp 200028,i64 (y0 + (j : Nat))])
   (fun j=>[(200006,.box (wldC w)),(200008,.box [i64 c.x,i64 c.y]),(200028,.pm .i64 (laidA w x0 y0 nx j).1 (laidA w x0 y0 nx j).2)])
   (fun j=>j ≤ ny) (fun j=>ny - j) 0 (by omega) ?_ ?_
 · conv=>whnf
   repeat' (first|exact trivial|((first|refine kL ?_|(refine ⟨fun hb=>?_,fun hb=>?_⟩<;>(try simp only [nrm] at hb)<;>(try (first|(exfalso;omega)|contradiction|exact kB hb)))|refine kW cfg_ok ?_|refine kC ?_|refine bdA ?_|refine bd2 ?_|refine bdR ?_|refine bdL ?_)<;>(conv=>whnf))|(refine And.intro ?_ ?_;rotate_left;(conv=>whnf);rotate_right))
   all_goals first|rfl|omega|(simp;done)|trace_state
 · intro j hj N1 hN1 hE1 hT1
   by_cases hlt : j < ny
   · conv=>whnf
     repeat' (first|exact trivial|((first|refine kL ?_|(refine ⟨fun hb=>?_,fun hb=>?_⟩<;>(try simp only [nrm] at hb)<;>(try (first|(exfalso;omega)|contradiction|exact kB hb)))|refine kW cfg_ok ?_|refine kC ?_|refine bdA ?_|refine bd2 ?_|refine bdR ?_|refine bdL ?_)<;>(conv=>whnf))|(refine And.intro ?_ ?_;rotate_left;(conv=>whnf);rotate_right))
     all_goals first|omega|skip
     generalize hS : laidA w x0 y0 nx j = S at *
     refine Runs.loopQ cfg_ok (σ:=Nat) [2,3,4,7,8,9] (fun i=>[i64 most,.ptr 200006 0,.ptr 200008 0,.mp 200028,i64 (y0 + (j : Nat)),i64 (x0 + (i : Nat))])
       (fun i=>[(200006,.box (wldC w)),(200008,.box [i64 c.x,i64 c.y]),(200028,.pm .i64 (rowA w (y0 + (j : Nat)) x0 S i).1 (rowA w (y0 + (j : Nat)) x0 S i).2)])
       (fun i=>i ≤ nx) (fun i=>nx - i) 0 (by omega) ?_ ?_
     · conv=>whnf
       repeat' (first|exact trivial|((first|refine kL ?_|(refine ⟨fun hb=>?_,fun hb=>?_⟩<;>(try simp only [nrm] at hb)<;>(try (first|(exfalso;omega)|contradiction|exact kB hb)))|refine kW cfg_ok ?_|refine kC ?_|refine bdA ?_|refine bd2 ?_|refine bdR ?_|refine bdL ?_)<;>(conv=>whnf))|(refine And.intro ?_ ?_;rotate_left;(conv=>whnf);rotate_right))
       all_goals first|rfl|omega|(simp;done)|trace_state
     · intro i hi N2 hN2 hE2 hT2
       by_cases hli : i < nx
       · obtain ⟨hcc,hcl⟩:=hch (x0 + (i : Nat)) (y0 + (j : Nat)) (by omega) (by omega) (by omega) (by omega)
         have hsu:=rowA_succ w (y0 + (j : Nat)) x0 S i
         have hbx : 0 ≤ x0 + (i : Nat) ∧ x0 + (i : Nat) ≤ 16:=by omega
         have hby : 0 ≤ y0 + (j : Nat) ∧ y0 + (j : Nat) ≤ 16:=by omega
         generalize hCk : (chunkW w (x0 + (i : Nat)) (y0 + (j : Nat))).1 = Ck at *
         generalize hR1 : rowA w (y0 + (j : Nat)) x0 S (i + 1) = R1 at *
         generalize rowA w (y0 + (j : Nat)) x0 S i = R0 at *
         conv=>whnf
         repeat' (first|exact trivial|((first|refine kL ?_|(refine ⟨fun hb=>?_,fun hb=>?_⟩<;>(try simp only [nrm] at hb)<;>(try (first|(exfalso;omega)|contradiction|exact kB hb)))|refine kA hcc ?_|refine kD hcc ?_|refine kW cfg_ok ?_|refine kC ?_|refine bdA ?_|refine bd2 ?_|refine bdR ?_|refine bdL ?_)<;>(conv=>whnf))|(refine And.intro ?_ ?_;rotate_left;(conv=>whnf);rotate_right))
         all_goals first|omega|skip
         refine Runs.loopQ cfg_ok (σ:=Nat) [2,3,4,7,8,9,61,62,63] (fun k=>[i64 most,.ptr 200006 0,.ptr 200008 0,.mp 200028,i64 (y0 + (j : Nat)),i64 (x0 + (i : Nat)),.vec .u8 Ck.cells,i64 Ck.cells.length,i64 k])
           (fun k=>[(200006,.box (wldC w)),(200008,.box [i64 c.x,i64 c.y]),(200028,.pm .i64 (cellsA (x0 + (i : Nat)) (y0 + (j : Nat)) Ck.cells R0 k).1 (cellsA (x0 + (i : Nat)) (y0 + (j : Nat)) Ck.cells R0 k).2)])
           (fun k=>k ≤ Ck.cells.length) (fun k=>Ck.cells.length - k) 0 (by omega) ?_ ?_
         · conv=>whnf
           repeat' (first|exact trivial|((first|refine kL ?_|(refine ⟨fun hb=>?_,fun hb=>?_⟩<;>(try simp only [nrm] at hb)<;>(try (first|(exfalso;omega)|contradiction|exact kB hb)))|refine kW cfg_ok ?_|refine kC ?_|refine bdA ?_|refine bd2 ?_|refine bdR ?_|refine bdL ?_)<;>(conv=>whnf))|(refine And.intro ?_ ?_;rotate_left;(conv=>whnf);rotate_right))
           all_goals first|rfl|omega|(simp;done)|trace_state
         · intro k hk N3 hN3 hE3 hT3
           generalize hX : x0 + (i : Nat) = X at *
           generalize hY : y0 + (j : Nat) = Y at *
           by_cases hlk : k < Ck.cells.length
           · by_cases h0 : elt .u8 Ck.cells k = 0
             · have hcs : cellsA X Y Ck.cells R0 (k + 1) = putM (cellsA X Y Ck.cells R0 k) (X * 8 + (k : Int) % 8) (Y * 8 + (k : Int) / 8) 1:=by
                 show (if elt .u8 Ck.cells k = 0 then _ else _) = _
                 rw [if_pos h0]
               conv=>whnf
               repeat' (first|exact trivial|((first|refine kL ?_|(refine ⟨fun hb=>?_,fun hb=>?_⟩<;>(try simp only [nrm] at hb)<;>(try (first|(exfalso;omega)|contradiction|exact kB hb)))|refine kW cfg_ok ?_|refine kC ?_|refine bdA ?_|refine bd2 ?_|refine bdR ?_|refine bdL ?_)<;>(conv=>whnf))|(refine And.intro ?_ ?_;rotate_left;(conv=>whnf);rotate_right))
               all_goals first|omega|skip
               refine hN3 _ _ ?_
               conv=>whnf
               refine .to (k + 1) (by omega) (by omega) ?_
               conv=>whnf
               repeat' (first|exact trivial|((first|refine kL ?_|(refine ⟨fun hb=>?_,fun hb=>?_⟩<;>(try simp only [nrm] at hb)<;>(try (first|(exfalso;omega)|contradiction|exact kB hb)))|refine kW cfg_ok ?_|refine kC ?_|refine bdA ?_|refine bd2 ?_|refine bdR ?_|refine bdL ?_)<;>(conv=>whnf))|(refine And.intro ?_ ?_;rotate_left;(conv=>whnf);rotate_right))
               all_goals first|rfl|omega|(rw [hcs];done)|(rw [hcs];rfl)|trace_state
             · have hcs : cellsA X Y Ck.cells R0 (k + 1) = cellsA X Y Ck.cells R0 k:=by
                 show (if elt .u8 Ck.cells k = 0 then _ else _) = _
                 rw [if_neg h0]
               conv=>whnf
               repeat' (first|exact trivial|((first|refine kL ?_|(refine ⟨fun hb=>?_,fun hb=>?_⟩<;>(try simp only [nrm] at hb)<;>(try (first|(exfalso;omega)|contradiction|exact kB hb)))|refine kW cfg_ok ?_|refine kC ?_|refine bdA ?_|refine bd2 ?_|refine bdR ?_|refine bdL ?_)<;>(conv=>whnf))|(refine And.intro ?_ ?_;rotate_left;(conv=>whnf);rotate_right))
               all_goals first|omega|skip
               refine hN3 _ _ ?_
               conv=>whnf
               refine .to (k + 1) (by omega) (by omega) ?_
               conv=>whnf
               repeat' (first|exact trivial|((first|refine kL ?_|(refine ⟨fun hb=>?_,fun hb=>?_⟩<;>(try simp only [nrm] at hb)<;>(try (first|(exfalso;omega)|contradiction|exact kB hb)))|refine kW cfg_ok ?_|refine kC ?_|refine bdA ?_|refine bd2 ?_|refine bdR ?_|refine bdL ?_)<;>(conv=>whnf))|(refine And.intro ?_ ?_;rotate_left;(conv=>whnf);rotate_right))
               all_goals first|rfl|omega|(rw [hcs];done)|(rw [hcs];rfl)|trace_state
           · obtain rfl : k = Ck.cells.length:=by omega
             conv=>whnf
             repeat' (first|exact trivial|((first|refine kL ?_|(refine ⟨fun hb=>?_,fun hb=>?_⟩<;>(try simp only [nrm] at hb)<;>(try (first|(exfalso;omega)|contradiction|exact kB hb)))|refine kW cfg_ok ?_|refine kC ?_|refine bdA ?_|refine bd2 ?_|refine bdR ?_|refine bdL ?_)<;>(conv=>whnf))|(refine And.intro ?_ ?_;rotate_left;(conv=>whnf);rotate_right))
             refine hE3 _ _ _ ?_
             conv=>whnf
             repeat' (first|exact trivial|((first|refine kL ?_|(refine ⟨fun hb=>?_,fun hb=>?_⟩<;>(try simp only [nrm] at hb)<;>(try (first|(exfalso;omega)|contradiction|exact kB hb)))|refine kW cfg_ok ?_|refine kC ?_|refine bdA ?_|refine bd2 ?_|refine bdR ?_|refine bdL ?_)<;>(conv=>whnf))|(refine And.intro ?_ ?_;rotate_left;(conv=>whnf);rotate_right))
             refine hN2 _ _ ?_
             conv=>whnf
             refine .to (i + 1) (by omega) (by omega) ?_
             conv=>whnf
             repeat' (first|exact trivial|((first|refine kL ?_|(refine ⟨fun hb=>?_,fun hb=>?_⟩<;>(try simp only [nrm] at hb)<;>(try (first|(exfalso;omega)|contradiction|exact kB hb)))|refine kW cfg_ok ?_|refine kC ?_|refine bdA ?_|refine bd2 ?_|refine bdR ?_|refine bdL ?_)<;>(conv=>whnf))|(refine And.intro ?_ ?_;rotate_left;(conv=>whnf);rotate_right))
             all_goals first|rfl|omega|(rw [hcl,hR1,hsu];done)|(rw [hcl,hR1,hsu];exact rfl)|trace_state
       · obtain rfl : i = nx:=by omega
         have hsu:=laidA_succ w x0 y0 i j
         rw [hS] at hsu
         conv=>whnf
         repeat' (first|exact trivial|((first|refine kL ?_|(refine ⟨fun hb=>?_,fun hb=>?_⟩<;>(try simp only [nrm] at hb)<;>(try (first|(exfalso;omega)|contradiction|exact kB hb)))|refine kW cfg_ok ?_|refine kC ?_|refine bdA ?_|refine bd2 ?_|refine bdR ?_|refine bdL ?_)<;>(conv=>whnf))|(refine And.intro ?_ ?_;rotate_left;(conv=>whnf);rotate_right))
         all_goals first|omega|skip
         refine hE2 _ _ _ ?_
         conv=>whnf
         repeat' (first|exact trivial|((first|refine kL ?_|(refine ⟨fun hb=>?_,fun hb=>?_⟩<;>(try simp only [nrm] at hb)<;>(try (first|(exfalso;omega)|contradiction|exact kB hb)))|refine kW cfg_ok ?_|refine kC ?_|refine bdA ?_|refine bd2 ?_|refine bdR ?_|refine bdL ?_)<;>(conv=>whnf))|(refine And.intro ?_ ?_;rotate_left;(conv=>whnf);rotate_right))
         refine hN1 _ _ ?_
         conv=>whnf
         refine .to (j + 1) (by omega) (by omega) ?_
         conv=>whnf
         repeat' (first|exact trivial|((first|refine kL ?_|(refine ⟨fun hb=>?_,fun hb=>?_⟩<;>(try simp only [nrm] at hb)<;>(try (first|(exfalso;omega)|contradiction|exact kB hb)))|refine kW cfg_ok ?_|refine kC ?_|refine bdA ?_|refine bd2 ?_|refine bdR ?_|refine bdL ?_)<;>(conv=>whnf))|(refine And.intro ?_ ?_;rotate_left;(conv=>whnf);rotate_right))
         all_goals first|rfl|omega|(rw [hsu];done)|(rw [hsu];rfl)|trace_state
   · obtain rfl : j = ny:=by omega
     conv=>whnf
     repeat' (first|exact trivial|((first|refine kL ?_|(refine ⟨fun hb=>?_,fun hb=>?_⟩<;>(try simp only [nrm] at hb)<;>(try (first|(exfalso;omega)|contradiction|exact kB hb)))|refine kW cfg_ok ?_|refine kC ?_|refine bdA ?_|refine bd2 ?_|refine bdR ?_|refine bdL ?_)<;>(conv=>whnf))|(refine And.intro ?_ ?_;rotate_left;(conv=>whnf);rotate_right))
     all_goals first|omega|skip
     refine hE1 _ _ _ ?_
     conv=>whnf
     repeat' (first|exact trivial|((first|refine kL ?_|(refine ⟨fun hb=>?_,fun hb=>?_⟩<;>(try simp only [nrm] at hb)<;>(try (first|(exfalso;omega)|contradiction|exact kB hb)))|refine kW cfg_ok ?_|refine kC ?_|refine bdA ?_|refine bd2 ?_|refine bdR ?_|refine bdL ?_)<;>(conv=>whnf))|(refine And.intro ?_ ?_;rotate_left;(conv=>whnf);rotate_right))
     all_goals first|rfl|omega|trace_state
open Go Go.RowKit Eng
def stepN (k : Nat) : Pos:=elt .pos stepsL k
def ringR (A : PF) (bg : Pos) (n : Int) (ring : List Pos) (off : PF × Nat) (j : Nat) : (PF × Nat) × List Pos:=(ring.take j).foldl (fun st c=>stepsL.foldl (fun st s=>candB A bg n st (subP c s)) st) (off,[])
def askR (A : PF) (bg : Pos) (n : Int) (c : Pos) (st : (PF × Nat) × List Pos) (k : Nat) : (PF × Nat) × List Pos:=(stepsL.take k).foldl (fun st s=>candB A bg n st (subP c s)) st
theorem ringR_succ (A : PF) (bg : Pos) (n : Int) (ring : List Pos) (off : PF × Nat) {j : Nat} (h : j < ring.length) : ringR A bg n ring off (j + 1) = askR A bg n (elt .pos ring j) (ringR A bg n ring off j) 8:=by
 unfold ringR
 rw [List.take_add_one,elt_get .pos ring j h,Option.toList_some,List.foldl_append]
 rfl
theorem ringR_end (A : PF) (bg : Pos) (n : Int) (ring : List Pos) (off : PF × Nat) : ringR A bg n ring off ring.length = roundR A bg n ring off:=by
 unfold ringR roundR;rw [List.take_length]
theorem askR_succ (A : PF) (bg : Pos) (n : Int) (c : Pos) (st : (PF × Nat) × List Pos) {k : Nat} (h : k < 8) : askR A bg n c st (k + 1) = candB A bg n (askR A bg n c st k) (subP c (stepN k)):=by
 unfold askR
 have h8 : k < stepsL.length:=h
 rw [List.take_add_one,elt_get .pos stepsL k h8,Option.toList_some,List.foldl_append]
 rfl
theorem nodup_len {n : Nat} : ∀ {l : List Nat},l.Nodup → (∀ a ∈ l,a < n) → l.length ≤ n:=by
 induction n with
 | zero =>
   intro l _ h
   cases l with
   | nil=>simp
   | cons a r=>have:=h a (List.mem_cons_self ..);omega
 | succ n ih =>
   intro l hn h
   by_cases hm : n ∈ l
   · obtain ⟨l1,l2,rfl⟩:=List.append_of_mem hm
     obtain ⟨a1,a2,a3⟩:=List.nodup_append.1 hn
     obtain ⟨b1,b2⟩:=List.nodup_cons.1 a2
     have h2:=ih (l:=l1 ++ l2) (List.nodup_append.2 ⟨a1,b2,fun a ha b hb=>a3 a ha b (List.mem_cons_of_mem _ hb)⟩) fun a ha=>by
       rcases List.mem_append.1 ha with ha|ha
       · have h3:=h a (List.mem_append_left _ ha)
         have h4:=a3 a ha n (List.mem_cons_self ..)
         omega
       · have h3:=h a (List.mem_append_right _ (List.mem_cons_of_mem _ ha))
         have h4 : a ≠ n:=fun e=>b1 (e ▸ ha)
         omega
     rw [List.length_append] at h2 ⊢
     rw [List.length_cons];omega
   · have:=ih hn fun a ha=>by
       have h3:=h a ha
       have h4 : a ≠ n:=fun e=>hm (e ▸ ha)
       omega
     omega
def inBox (b : Pos) : Prop:=0 ≤ b.x ∧ b.x < 128 ∧ 0 ≤ b.y ∧ b.y < 128
def codeP (b : Pos) : Nat:=(b.y * 128 + b.x).toNat
theorem code_nodup : ∀ {l : List Pos},l.Nodup → (∀ b ∈ l,inBox b) → (l.map codeP).Nodup
 | [],_,_=>List.nodup_nil
 | b :: r,hn,h=>by
   obtain ⟨h1,h2⟩:=List.nodup_cons.1 hn
   rw [List.map_cons]
   refine List.nodup_cons.2 ⟨fun hm=>?_,code_nodup h2 fun c hc=>h c (List.mem_cons_of_mem _ hc)⟩
   obtain ⟨c,hc,he⟩:=List.mem_map.1 hm
   have a1:=h b (List.mem_cons_self ..)
   have a2:=h c (List.mem_cons_of_mem _ hc)
   unfold inBox at a1 a2
   unfold codeP at he
   have : c = b:=pos_ext (by omega) (by omega)
   exact h1 (this ▸ hc)
theorem box_len {l : List Pos} (hn : l.Nodup) (h : ∀ b ∈ l,inBox b) : l.length ≤ 16384:=by
 have:=nodup_len (code_nodup hn h) (n:=16384) fun a ha=>by
   obtain ⟨b,hb,rfl⟩:=List.mem_map.1 ha
   have:=h b hb
   unfold inBox at this
   unfold codeP;omega
 rwa [List.length_map] at this
def Nice (A : PF) (st : (PF × Nat) × List Pos) : Prop:=st.2.Nodup ∧ ∀ b ∈ st.2,(st.1.1 b.x b.y).isSome = true ∧ getZ (A b.x b.y) = 1
theorem nice_cand {A : PF} {bg : Pos} {n : Int} {st : (PF × Nat) × List Pos} (b : Pos) (h : Nice A st) : Nice A (candB A bg n st b):=by
 unfold candB
 split
 · exact h
 · rename_i hc
   have hno : ¬ (st.1.1 b.x b.y).isSome = true:=fun e=>hc (.inl e)
   have hset : ∀ c : Pos,(st.1.1 c.x c.y).isSome = true → ((putM st.1 b.x b.y n).1 c.x c.y).isSome = true:=fun c hc=>by
     show (setF st.1.1 b.x b.y n c.x c.y).isSome = true
     unfold setF
     split
     · rfl
     · exact hc
   by_cases h1 : getZ (A b.x b.y) = 1
   · rw [if_pos h1]
     refine ⟨List.nodup_append.2 ⟨h.1,List.nodup_cons.2 ⟨List.not_mem_nil,List.nodup_nil⟩,fun a ha c hc he=>?_⟩,fun c hc=>?_⟩
     · rw [List.mem_singleton] at hc
       rw [he,hc] at ha
       exact hno (h.2 b ha).1
     · rcases List.mem_append.1 hc with hc|hc
       · exact ⟨hset c (h.2 c hc).1,(h.2 c hc).2⟩
       · rw [List.mem_singleton] at hc
         rw [hc]
         refine ⟨?_,h1⟩
         show (setF st.1.1 b.x b.y n b.x b.y).isSome = true
         unfold setF;rw [if_pos ⟨rfl,rfl⟩];rfl
   · rw [if_neg h1]
     exact ⟨h.1,fun c hc=>⟨hset c (h.2 c hc).1,(h.2 c hc).2⟩⟩
theorem nice_ask {A : PF} {bg : Pos} {n : Int} {c : Pos} {st : (PF × Nat) × List Pos} (h : Nice A st) {k : Nat} (hk : k ≤ 8) : Nice A (askR A bg n c st k):=by
 induction k with
 | zero=>exact h
 | succ k ih=>rw [askR_succ _ _ _ _ _ (by omega)];exact nice_cand _ (ih (by omega))
theorem nice_ring {A : PF} {bg : Pos} {n : Int} {ring : List Pos} {off : PF × Nat} {j : Nat} (hj : j ≤ ring.length) : Nice A (ringR A bg n ring off j):=by
 induction j with
 | zero=>exact ⟨List.nodup_nil,fun b hb=>by cases hb⟩
 | succ j ih=>rw [ringR_succ _ _ _ _ _ (by omega)];exact nice_ask (ih (by omega)) (by omega)
theorem nice_len {A : PF} (hA : ∀ b : Pos,getZ (A b.x b.y) = 1 → inBox b) {st : (PF × Nat) × List Pos} (h : Nice A st) : st.2.length ≤ 16384:=box_len h.1 fun b hb=>hA b (h.2 b hb).2
theorem cand_known {A : PF} {bg : Pos} {n : Int} {st : (PF × Nat) × List Pos} {b : Pos} (h : (st.1.1 b.x b.y).isSome = true) : candB A bg n st b = st:=by unfold candB;rw [if_pos (.inl h)]
theorem cand_shut {A : PF} {bg : Pos} {n : Int} {st : (PF × Nat) × List Pos} {b : Pos} (h : getZ (A b.x b.y) = 0) (h2 : ¬ (b.x = bg.x ∧ b.y = bg.y)) : candB A bg n st b = st:=by
 have hno : ¬ okP A bg b:=by
   rintro (e|e)
   · omega
   · exact h2 e
 unfold candB
 rw [if_pos (.inr hno)]
theorem cand_air {A : PF} {bg : Pos} {n : Int} {st : (PF × Nat) × List Pos} {b : Pos} (h : (st.1.1 b.x b.y).isSome = false) (h2 : getZ (A b.x b.y) = 1) : candB A bg n st b = (putM st.1 b.x b.y n,st.2 ++ [b]):=by
 unfold candB;rw [if_neg,if_pos h2]
 rintro (e|e)
 · rw [h] at e;cases e
 · exact e (.inl h2)
theorem cand_bg {A : PF} {bg : Pos} {n : Int} {st : (PF × Nat) × List Pos} {b : Pos} (h : (st.1.1 b.x b.y).isSome = false) (h2 : ¬ getZ (A b.x b.y) = 1) (h3 : b.x = bg.x ∧ b.y = bg.y) : candB A bg n st b = (putM st.1 b.x b.y n,st.2):=by
 unfold candB;rw [if_neg,if_neg h2]
 rintro (e|e)
 · rw [h] at e;cases e
 · exact e (.inr h3)
theorem grow_one (S : List Pos) (b : Pos) : List.take (S.length + (List.take 1 (List.drop 0 [(⟨b.x,b.y⟩ : Pos)])).length) (List.take S.length S ++ List.take 1 (List.drop 0 [(⟨b.x,b.y⟩ : Pos)])) = S ++ [b]:=by
 simp only [List.drop_zero,List.take_length]
 exact List.take_of_length_le (by simp)
theorem spread_step {A : PF} {e bg : Pos} {m M : Nat} (h : m < M) (hr : 0 < (roundsP A e bg m).2.length) : spreadP A e bg m (M - m) = if ((roundsP A e bg (m + 1)).1.1 bg.x bg.y).isSome = true then (m + 1,true) else spreadP A e bg (m + 1) (M - (m + 1)):=by
 obtain ⟨f,hf⟩ : ∃ f,M - m = f + 1:=⟨M - m - 1,by omega⟩
 rw [hf,show M - (m + 1) = f by omega]
 show (if (roundsP A e bg m).2 = [] then (m,false) else _) = _
 rw [if_neg (fun h=>by rw [h] at hr;simp at hr)]
theorem spread_stop {A : PF} {e bg : Pos} {m M : Nat} (hm : m ≤ M) (h : ¬ (m < M ∧ 0 < (roundsP A e bg m).2.length)) : spreadP A e bg m (M - m) = (m,false):=by
 by_cases hlt : m < M
 · obtain ⟨f,hf⟩ : ∃ f,M - m = f + 1:=⟨M - m - 1,by omega⟩
   rw [hf]
   show (if (roundsP A e bg m).2 = [] then (m,false) else _) = _
   have h0 : (roundsP A e bg m).2.length = 0:=by
     have : ¬ 0 < (roundsP A e bg m).2.length:=fun h2=>h ⟨hlt,h2⟩
     omega
   rw [if_pos (List.length_eq_zero_iff.1 h0)]
 · rw [show M - m = 0 by omega];rfl
theorem rounds_len {A : PF} {e bg : Pos} (hA : ∀ b : Pos,getZ (A b.x b.y) = 1 → inBox b) (m : Nat) : (roundsP A e bg m).2.length ≤ 16384:=by
 cases m with
 | zero=>show [e].length ≤ _;simp
 | succ m =>
   have h : roundsP A e bg (m + 1) = ringR A bg ((m + 1 : Nat) : Int) (roundsP A e bg m).2 (roundsP A e bg m).1 (roundsP A e bg m).2.length:=by rw [ringR_end];rfl
   rw [h];exact nice_len hA (nice_ring (Nat.le_refl _))
theorem pspread_ev (A : PF) (nA : Nat) (e bg : Pos) (most : Int) (hA01 : ∀ x y,getZ (A x y) = 0 ∨ getZ (A x y) = 1) (hbox : ∀ b : Pos,getZ (A b.x b.y) = 1 → inBox b) (he : airP A e) (hbg : 0 ≤ bg.x ∧ bg.x ≤ 1000 ∧ 0 ≤ bg.y ∧ bg.y ≤ 1000) (hm : 0 ≤ most ∧ most ≤ 64) :
   Ev1 Try.prog 55 [.ptr 0 0,.agg [i64 e.x,i64 e.y],.agg [i64 bg.x,i64 bg.y],i64 most]
     [(0,.box [.mp 1,.lit (.map none)]),(1,.pm .i64 A nA)] (bol (spreadP A e bg 0 most.toNat).2)
     [(0,.box [.mp 1,.mp 390001]),(1,.pm .i64 A nA),(390001,.pm .i64 (roundsP A e bg (spreadP A e bg 0 most.toNat).1).1.1 (roundsP A e bg (spreadP A e bg 0 most.toNat).1).1.2)]:=by
 obtain ⟨M,rfl⟩ : ∃ M : Nat,most = M:=⟨most.toNat,by omega⟩
 rw [Int.toNat_natCast]
 have hst:=steps_api
 refine Ev1.of_finR cfg_ok Try.func55 rfl [(0,0),(1,1),(200046,390001)] (nt:=104) rfl ?_
 conv=>whnf
 repeat' (first|exact trivial|((first|refine kL ?_|(refine ⟨fun hb=>?_,fun hb=>?_⟩<;>(try simp only [nrm] at hb)<;>(try (first|(exfalso;omega)|contradiction|exact kB hb)))|refine kW cfg_ok ?_|refine kC ?_|refine bdA ?_|refine bd2 ?_|refine bdR ?_|refine bdL ?_)<;>(conv=>whnf))|(refine And.intro ?_ ?_;rotate_left;(conv=>whnf);rotate_right))
 refine Runs.loopQ cfg_ok (σ:=Nat) [0,3,6,9,10,11] (fun m=>[.ptr 0 0,i64 M,.ptr 200012 0,.vec .pos (roundsP A e bg m).2,.lit (.func (.func 90) #[] #[]),i64 ((m : Nat) + 1)])
   (fun m=>[(0,.box [.mp 1,.mp 200046]),(1,.pm .i64 A nA),(200012,.box [i64 bg.x,i64 bg.y]),(200046,.pm .i64 (roundsP A e bg m).1.1 (roundsP A e bg m).1.2)])
   (fun m=>m ≤ M ∧ spreadP A e bg m (M - m) = spreadP A e bg 0 M) (fun m=>M - m) 0 ⟨by omega,rfl⟩ ?_ ?_
 · conv=>whnf
   repeat' (first|exact trivial|((first|refine kL ?_|(refine ⟨fun hb=>?_,fun hb=>?_⟩<;>(try simp only [nrm] at hb)<;>(try (first|(exfalso;omega)|contradiction|exact kB hb)))|refine kW cfg_ok ?_|refine kC ?_|refine bdA ?_|refine bd2 ?_|refine bdR ?_|refine bdL ?_)<;>(conv=>whnf))|(refine And.intro ?_ ?_;rotate_left;(conv=>whnf);rotate_right))
   all_goals first|rfl|omega|(simp;done)|trace_state
 · rintro m ⟨hmM,hsp⟩ N1 hN1 hE1 hT1
   have hinv:=inv_rounds (bg:=bg) he m
   have hrl : ∀ c ∈ (roundsP A e bg m).2,inBox c:=fun c hc=>hbox c ((hinv.ring c).1 hc).1
   have hsu : roundsP A e bg (m + 1) = roundR A bg ((m + 1 : Nat) : Int) (roundsP A e bg m).2 (roundsP A e bg m).1:=rfl
   by_cases hgo : m < M ∧ 0 < (roundsP A e bg m).2.length
   · obtain ⟨hlt,hpos⟩:=hgo
     have hR9:=rounds_len (A:=A) (e:=e) (bg:=bg) hbox m
     rw [spread_step hlt hpos] at hsp
     generalize hR : (roundsP A e bg m).2 = R at *
     generalize hO : (roundsP A e bg m).1 = O at *
     conv=>whnf
     repeat' (first|exact trivial|((first|refine kL ?_|(refine ⟨fun hb=>?_,fun hb=>?_⟩<;>(try simp only [nrm] at hb)<;>(try (first|(exfalso;omega)|contradiction|exact kB hb)))|refine kW cfg_ok ?_|refine kC ?_|refine bdA ?_|refine bd2 ?_|refine bdR ?_|refine bdL ?_)<;>(conv=>whnf))|(refine And.intro ?_ ?_;rotate_left;(conv=>whnf);rotate_right))
     all_goals first|omega|skip
     refine Runs.loopQ cfg_ok (σ:=Nat) [0,3,6,10,11,12,40,41,42] (fun j=>[.ptr 0 0,i64 M,.ptr 200012 0,.lit (.func (.func 90) #[] #[]),i64 ((m : Nat) + 1),.own .pos 200189 0 (ringR A bg ((m + 1 : Nat) : Int) R O j).2.length none,.vec .pos R,i64 R.length,i64 j])
       (fun j=>[(0,.box [.mp 1,.mp 200046]),(1,.pm .i64 A nA),(200012,.box [i64 bg.x,i64 bg.y]),(200046,.pm .i64 (ringR A bg ((m + 1 : Nat) : Int) R O j).1.1 (ringR A bg ((m + 1 : Nat) : Int) R O j).1.2),(200189,.row .pos (ringR A bg ((m + 1 : Nat) : Int) R O j).2)])
       (fun j=>j ≤ R.length) (fun j=>R.length - j) 0 (by omega) ?_ ?_
     · conv=>whnf
       repeat' (first|exact trivial|((first|refine kL ?_|(refine ⟨fun hb=>?_,fun hb=>?_⟩<;>(try simp only [nrm] at hb)<;>(try (first|(exfalso;omega)|contradiction|exact kB hb)))|refine kW cfg_ok ?_|refine kC ?_|refine bdA ?_|refine bd2 ?_|refine bdR ?_|refine bdL ?_)<;>(conv=>whnf))|(refine And.intro ?_ ?_;rotate_left;(conv=>whnf);rotate_right))
       all_goals first|rfl|omega|(simp;done)|trace_state
     · intro j hj N2 hN2 hE2 hT2
       by_cases hlj : j < R.length
       · have hcb:=hrl _ (elt_mem (t:=.pos) hlj)
         have hsr:=ringR_succ A bg ((m + 1 : Nat) : Int) R O hlj
         have hnr:=nice_ring (A:=A) (bg:=bg) (n:=((m + 1 : Nat) : Int)) (ring:=R) (off:=O) (j:=j) (by omega)
         generalize hcE : elt .pos R j = c at *
         generalize hS1 : ringR A bg ((m + 1 : Nat) : Int) R O (j + 1) = S1 at *
         generalize hS0 : ringR A bg ((m + 1 : Nat) : Int) R O j = S0 at *
         conv=>whnf
         repeat' (first|exact trivial|((first|refine kL ?_|(refine ⟨fun hb=>?_,fun hb=>?_⟩<;>(try simp only [nrm] at hb)<;>(try (first|(exfalso;omega)|contradiction|exact kB hb)))|refine kA hst ?_|refine kD hst ?_|refine kW cfg_ok ?_|refine kC ?_|refine bdA ?_|refine bd2 ?_|refine bdR ?_|refine bdL ?_)<;>(conv=>whnf))|(refine And.intro ?_ ?_;rotate_left;(conv=>whnf);rotate_right))
         all_goals first|omega|skip
         refine Runs.loopQ cfg_ok (σ:=Nat) [0,3,6,10,11,12,14,40,41,42,46,47] (fun k=>[.ptr 0 0,i64 M,.ptr 200012 0,.lit (.func (.func 90) #[] #[]),i64 ((m : Nat) + 1),.own .pos 200189 0 (askR A bg ((m + 1 : Nat) : Int) c S0 k).2.length none,.ptr 200028 0,.vec .pos R,i64 R.length,i64 j,stepsV,i64 k])
           (fun k=>[(0,.box [.mp 1,.mp 200046]),(1,.pm .i64 A nA),(200012,.box [i64 bg.x,i64 bg.y]),(200028,.box [i64 c.x,i64 c.y]),(200046,.pm .i64 (askR A bg ((m + 1 : Nat) : Int) c S0 k).1.1 (askR A bg ((m + 1 : Nat) : Int) c S0 k).1.2),(200189,.row .pos (askR A bg ((m + 1 : Nat) : Int) c S0 k).2)])
           (fun k=>k ≤ 8) (fun k=>8 - k) 0 (by omega) ?_ ?_
         · conv=>whnf
           repeat' (first|exact trivial|((first|refine kL ?_|(refine ⟨fun hb=>?_,fun hb=>?_⟩<;>(try simp only [nrm] at hb)<;>(try (first|(exfalso;omega)|contradiction|exact kB hb)))|refine kW cfg_ok ?_|refine kC ?_|refine bdA ?_|refine bd2 ?_|refine bdR ?_|refine bdL ?_)<;>(conv=>whnf))|(refine And.intro ?_ ?_;rotate_left;(conv=>whnf);rotate_right))
           all_goals first|rfl|omega|(simp;done)|exact List.take_length|exact congrArg (fun z : Pos=>Value.int .i64 z.x) hcE|exact congrArg (fun z : Pos=>Value.int .i64 z.y) hcE|trace_state
         · intro k hk N3 hN3 hE3 hT3
           by_cases hlk : k < 8
           · have hcs:=askR_succ A bg ((m + 1 : Nat) : Int) c S0 hlk
             have hnk:=nice_len hbox (nice_ask (A:=A) (bg:=bg) (n:=((m + 1 : Nat) : Int)) (c:=c) hnr (k:=k) (by omega))
             unfold inBox at hcb
             have hfr : Api Try.prog 90 [.agg [i64 c.x,i64 c.y],.agg [i64 (stepN k).x,i64 (stepN k).y]] (.agg [i64 (subP c (stepN k)).x,i64 (subP c (stepN k)).y]):=
               pfrom_api c (stepN k) (by omega) (steps_bd (elt_mem (t:=.pos) (show k < stepsL.length from hlk)))
             rcases (show k = 0 ∨ k = 1 ∨ k = 2 ∨ k = 3 ∨ k = 4 ∨ k = 5 ∨ k = 6 ∨ k = 7 by omega) with h|h|h|h|h|h|h|h
             · subst h
               generalize hbE : subP c (stepN 0) = b at hcs hfr
               have h01:=hA01 b.x b.y
               conv=>whnf
               repeat' (first|exact trivial|((first|refine kL ?_|(refine ⟨fun hb=>?_,fun hb=>?_⟩<;>(try simp only [nrm] at hb)<;>(try (first|(exfalso;omega)|contradiction|exact kB hb)))|refine kA hfr ?_|refine kD hfr ?_|refine kW cfg_ok ?_|refine kC ?_|refine bdA ?_|refine bd2 ?_|refine bdR ?_|refine bdL ?_)<;>(conv=>whnf))|(refine And.intro ?_ ?_;rotate_left;(conv=>whnf);rotate_right))
               all_goals first|omega|skip
               all_goals
                 first
                   | rw [cand_known (by assumption)] at hcs
                   | rw [cand_air (by assumption) (by assumption)] at hcs
                   | rw [cand_shut (by assumption) (by omega)] at hcs
                   | rw [cand_bg (by assumption) (by assumption) (by assumption)] at hcs
                 refine hN3 _ _ ?_
                 conv=>whnf
                 refine .to 1 (by omega) (by omega) ?_
                 conv=>whnf
                 repeat' (first|exact trivial|((first|refine kL ?_|(refine ⟨fun hb=>?_,fun hb=>?_⟩<;>(try simp only [nrm] at hb)<;>(try (first|(exfalso;omega)|contradiction|exact kB hb)))|refine kW cfg_ok ?_|refine kC ?_|refine bdA ?_|refine bd2 ?_|refine bdR ?_|refine bdL ?_)<;>(conv=>whnf))|(refine And.intro ?_ ?_;rotate_left;(conv=>whnf);rotate_right))
                 all_goals first|rfl|omega|(rw [hcs];done)|(rw [hcs];exact List.take_length)|(rw [hcs];exact rfl)|(rw [hcs];simp;done)|(rw [hcs];exact grow_one _ _)|trace_state
             · subst h
               generalize hbE : subP c (stepN 1) = b at hcs hfr
               have h01:=hA01 b.x b.y
               conv=>whnf
               repeat' (first|exact trivial|((first|refine kL ?_|(refine ⟨fun hb=>?_,fun hb=>?_⟩<;>(try simp only [nrm] at hb)<;>(try (first|(exfalso;omega)|contradiction|exact kB hb)))|refine kA hfr ?_|refine kD hfr ?_|refine kW cfg_ok ?_|refine kC ?_|refine bdA ?_|refine bd2 ?_|refine bdR ?_|refine bdL ?_)<;>(conv=>whnf))|(refine And.intro ?_ ?_;rotate_left;(conv=>whnf);rotate_right))
               all_goals first|omega|skip
               all_goals
                 first
                   | rw [cand_known (by assumption)] at hcs
                   | rw [cand_air (by assumption) (by assumption)] at hcs
                   | rw [cand_shut (by assumption) (by omega)] at hcs
                   | rw [cand_bg (by assumption) (by assumption) (by assumption)] at hcs
                 refine hN3 _ _ ?_
                 conv=>whnf
                 refine .to 2 (by omega) (by omega) ?_
                 conv=>whnf
                 repeat' (first|exact trivial|((first|refine kL ?_|(refine ⟨fun hb=>?_,fun hb=>?_⟩<;>(try simp only [nrm] at hb)<;>(try (first|(exfalso;omega)|contradiction|exact kB hb)))|refine kW cfg_ok ?_|refine kC ?_|refine bdA ?_|refine bd2 ?_|refine bdR ?_|refine bdL ?_)<;>(conv=>whnf))|(refine And.intro ?_ ?_;rotate_left;(conv=>whnf);rotate_right))
                 all_goals first|rfl|omega|(rw [hcs];done)|(rw [hcs];exact List.take_length)|(rw [hcs];exact rfl)|(rw [hcs];simp;done)|(rw [hcs];exact grow_one _ _)|trace_state
             · subst h
               generalize hbE : subP c (stepN 2) = b at hcs hfr
               have h01:=hA01 b.x b.y
               conv=>whnf
               repeat' (first|exact trivial|((first|refine kL ?_|(refine ⟨fun hb=>?_,fun hb=>?_⟩<;>(try simp only [nrm] at hb)<;>(try (first|(exfalso;omega)|contradiction|exact kB hb)))|refine kA hfr ?_|refine kD hfr ?_|refine kW cfg_ok ?_|refine kC ?_|refine bdA ?_|refine bd2 ?_|refine bdR ?_|refine bdL ?_)<;>(conv=>whnf))|(refine And.intro ?_ ?_;rotate_left;(conv=>whnf);rotate_right))
               all_goals first|omega|skip
               all_goals
                 first
                   | rw [cand_known (by assumption)] at hcs
                   | rw [cand_air (by assumption) (by assumption)] at hcs
                   | rw [cand_shut (by assumption) (by omega)] at hcs
                   | rw [cand_bg (by assumption) (by assumption) (by assumption)] at hcs
                 refine hN3 _ _ ?_
                 conv=>whnf
                 refine .to 3 (by omega) (by omega) ?_
                 conv=>whnf
                 repeat' (first|exact trivial|((first|refine kL ?_|(refine ⟨fun hb=>?_,fun hb=>?_⟩<;>(try simp only [nrm] at hb)<;>(try (first|(exfalso;omega)|contradiction|exact kB hb)))|refine kW cfg_ok ?_|refine kC ?_|refine bdA ?_|refine bd2 ?_|refine bdR ?_|refine bdL ?_)<;>(conv=>whnf))|(refine And.intro ?_ ?_;rotate_left;(conv=>whnf);rotate_right))
                 all_goals first|rfl|omega|(rw [hcs];done)|(rw [hcs];exact List.take_length)|(rw [hcs];exact rfl)|(rw [hcs];simp;done)|(rw [hcs];exact grow_one _ _)|trace_state
             · subst h
               generalize hbE : subP c (stepN 3) = b at hcs hfr
               have h01:=hA01 b.x b.y
               conv=>whnf
               repeat' (first|exact trivial|((first|refine kL ?_|(refine ⟨fun hb=>?_,fun hb=>?_⟩<;>(try simp only [nrm] at hb)<;>(try (first|(exfalso;omega)|contradiction|exact kB hb)))|refine kA hfr ?_|refine kD hfr ?_|refine kW cfg_ok ?_|refine kC ?_|refine bdA ?_|refine bd2 ?_|refine bdR ?_|refine bdL ?_)<;>(conv=>whnf))|(refine And.intro ?_ ?_;rotate_left;(conv=>whnf);rotate_right))
               all_goals first|omega|skip
               all_goals
                 first
                   | rw [cand_known (by assumption)] at hcs
                   | rw [cand_air (by assumption) (by assumption)] at hcs
                   | rw [cand_shut (by assumption) (by omega)] at hcs
                   | rw [cand_bg (by assumption) (by assumption) (by assumption)] at hcs
                 refine hN3 _ _ ?_
                 conv=>whnf
                 refine .to 4 (by omega) (by omega) ?_
                 conv=>whnf
                 repeat' (first|exact trivial|((first|refine kL ?_|(refine ⟨fun hb=>?_,fun hb=>?_⟩<;>(try simp only [nrm] at hb)<;>(try (first|(exfalso;omega)|contradiction|exact kB hb)))|refine kW cfg_ok ?_|refine kC ?_|refine bdA ?_|refine bd2 ?_|refine bdR ?_|refine bdL ?_)<;>(conv=>whnf))|(refine And.intro ?_ ?_;rotate_left;(conv=>whnf);rotate_right))
                 all_goals first|rfl|omega|(rw [hcs];done)|(rw [hcs];exact List.take_length)|(rw [hcs];exact rfl)|(rw [hcs];simp;done)|(rw [hcs];exact grow_one _ _)|trace_state
             · subst h
               generalize hbE : subP c (stepN 4) = b at hcs hfr
               have h01:=hA01 b.x b.y
               conv=>whnf
               repeat' (first|exact trivial|((first|refine kL ?_|(refine ⟨fun hb=>?_,fun hb=>?_⟩<;>(try simp only [nrm] at hb)<;>(try (first|(exfalso;omega)|contradiction|exact kB hb)))|refine kA hfr ?_|refine kD hfr ?_|refine kW cfg_ok ?_|refine kC ?_|refine bdA ?_|refine bd2 ?_|refine bdR ?_|refine bdL ?_)<;>(conv=>whnf))|(refine And.intro ?_ ?_;rotate_left;(conv=>whnf);rotate_right))
               all_goals first|omega|skip
               all_goals
                 first
                   | rw [cand_known (by assumption)] at hcs
                   | rw [cand_air (by assumption) (by assumption)] at hcs
                   | rw [cand_shut (by assumption) (by omega)] at hcs
                   | rw [cand_bg (by assumption) (by assumption) (by assumption)] at hcs
                 refine hN3 _ _ ?_
                 conv=>whnf
                 refine .to 5 (by omega) (by omega) ?_
                 conv=>whnf
                 repeat' (first|exact trivial|((first|refine kL ?_|(refine ⟨fun hb=>?_,fun hb=>?_⟩<;>(try simp only [nrm] at hb)<;>(try (first|(exfalso;omega)|contradiction|exact kB hb)))|refine kW cfg_ok ?_|refine kC ?_|refine bdA ?_|refine bd2 ?_|refine bdR ?_|refine bdL ?_)<;>(conv=>whnf))|(refine And.intro ?_ ?_;rotate_left;(conv=>whnf);rotate_right))
                 all_goals first|rfl|omega|(rw [hcs];done)|(rw [hcs];exact List.take_length)|(rw [hcs];exact rfl)|(rw [hcs];simp;done)|(rw [hcs];exact grow_one _ _)|trace_state
             · subst h
               generalize hbE : subP c (stepN 5) = b at hcs hfr
               have h01:=hA01 b.x b.y
               conv=>whnf
               repeat' (first|exact trivial|((first|refine kL ?_|(refine ⟨fun hb=>?_,fun hb=>?_⟩<;>(try simp only [nrm] at hb)<;>(try (first|(exfalso;omega)|contradiction|exact kB hb)))|refine kA hfr ?_|refine kD hfr ?_|refine kW cfg_ok ?_|refine kC ?_|refine bdA ?_|refine bd2 ?_|refine bdR ?_|refine bdL ?_)<;>(conv=>whnf))|(refine And.intro ?_ ?_;rotate_left;(conv=>whnf);rotate_right))
               all_goals first|omega|skip
               all_goals
                 first
                   | rw [cand_known (by assumption)] at hcs
                   | rw [cand_air (by assumption) (by assumption)] at hcs
                   | rw [cand_shut (by assumption) (by omega)] at hcs
                   | rw [cand_bg (by assumption) (by assumption) (by assumption)] at hcs
                 refine hN3 _ _ ?_
                 conv=>whnf
                 refine .to 6 (by omega) (by omega) ?_
                 conv=>whnf
                 repeat' (first|exact trivial|((first|refine kL ?_|(refine ⟨fun hb=>?_,fun hb=>?_⟩<;>(try simp only [nrm] at hb)<;>(try (first|(exfalso;omega)|contradiction|exact kB hb)))|refine kW cfg_ok ?_|refine kC ?_|refine bdA ?_|refine bd2 ?_|refine bdR ?_|refine bdL ?_)<;>(conv=>whnf))|(refine And.intro ?_ ?_;rotate_left;(conv=>whnf);rotate_right))
                 all_goals first|rfl|omega|(rw [hcs];done)|(rw [hcs];exact List.take_length)|(rw [hcs];exact rfl)|(rw [hcs];simp;done)|(rw [hcs];exact grow_one _ _)|trace_state
             · subst h
               generalize hbE : subP c (stepN 6) = b at hcs hfr
               have h01:=hA01 b.x b.y
               conv=>whnf
               repeat' (first|exact trivial|((first|refine kL ?_|(refine ⟨fun hb=>?_,fun hb=>?_⟩<;>(try simp only [nrm] at hb)<;>(try (first|(exfalso;omega)|contradiction|exact kB hb)))|refine kA hfr ?_|refine kD hfr ?_|refine kW cfg_ok ?_|refine kC ?_|refine bdA ?_|refine bd2 ?_|refine bdR ?_|refine bdL ?_)<;>(conv=>whnf))|(refine And.intro ?_ ?_;rotate_left;(conv=>whnf);rotate_right))
               all_goals first|omega|skip
               all_goals
                 first
                   | rw [cand_known (by assumption)] at hcs
                   | rw [cand_air (by assumption) (by assumption)] at hcs
                   | rw [cand_shut (by assumption) (by omega)] at hcs
                   | rw [cand_bg (by assumption) (by assumption) (by assumption)] at hcs
                 refine hN3 _ _ ?_
                 conv=>whnf
                 refine .to 7 (by omega) (by omega) ?_
                 conv=>whnf
                 repeat' (first|exact trivial|((first|refine kL ?_|(refine ⟨fun hb=>?_,fun hb=>?_⟩<;>(try simp only [nrm] at hb)<;>(try (first|(exfalso;omega)|contradiction|exact kB hb)))|refine kW cfg_ok ?_|refine kC ?_|refine bdA ?_|refine bd2 ?_|refine bdR ?_|refine bdL ?_)<;>(conv=>whnf))|(refine And.intro ?_ ?_;rotate_left;(conv=>whnf);rotate_right))
                 all_goals first|rfl|omega|(rw [hcs];done)|(rw [hcs];exact List.take_length)|(rw [hcs];exact rfl)|(rw [hcs];simp;done)|(rw [hcs];exact grow_one _ _)|trace_state
             · subst h
               generalize hbE : subP c (stepN 7) = b at hcs hfr
               have h01:=hA01 b.x b.y
               conv=>whnf
               repeat' (first|exact trivial|((first|refine kL ?_|(refine ⟨fun hb=>?_,fun hb=>?_⟩<;>(try simp only [nrm] at hb)<;>(try (first|(exfalso;omega)|contradiction|exact kB hb)))|refine kA hfr ?_|refine kD hfr ?_|refine kW cfg_ok ?_|refine kC ?_|refine bdA ?_|refine bd2 ?_|refine bdR ?_|refine bdL ?_)<;>(conv=>whnf))|(refine And.intro ?_ ?_;rotate_left;(conv=>whnf);rotate_right))
               all_goals first|omega|skip
               all_goals
                 first
                   | rw [cand_known (by assumption)] at hcs
                   | rw [cand_air (by assumption) (by assumption)] at hcs
                   | rw [cand_shut (by assumption) (by omega)] at hcs
                   | rw [cand_bg (by assumption) (by assumption) (by assumption)] at hcs
                 refine hN3 _ _ ?_
                 conv=>whnf
                 refine .to 8 (by omega) (by omega) ?_
                 conv=>whnf
                 repeat' (first|exact trivial|((first|refine kL ?_|(refine ⟨fun hb=>?_,fun hb=>?_⟩<;>(try simp only [nrm] at hb)<;>(try (first|(exfalso;omega)|contradiction|exact kB hb)))|refine kW cfg_ok ?_|refine kC ?_|refine bdA ?_|refine bd2 ?_|refine bdR ?_|refine bdL ?_)<;>(conv=>whnf))|(refine And.intro ?_ ?_;rotate_left;(conv=>whnf);rotate_right))
                 all_goals first|rfl|omega|(rw [hcs];done)|(rw [hcs];exact List.take_length)|(rw [hcs];exact rfl)|(rw [hcs];simp;done)|(rw [hcs];exact grow_one _ _)|trace_state
           · obtain rfl : k = 8:=by omega
             conv=>whnf
             repeat' (first|exact trivial|((first|refine kL ?_|(refine ⟨fun hb=>?_,fun hb=>?_⟩<;>(try simp only [nrm] at hb)<;>(try (first|(exfalso;omega)|contradiction|exact kB hb)))|refine kW cfg_ok ?_|refine kC ?_|refine bdA ?_|refine bd2 ?_|refine bdR ?_|refine bdL ?_)<;>(conv=>whnf))|(refine And.intro ?_ ?_;rotate_left;(conv=>whnf);rotate_right))
             all_goals first|omega|skip
             refine hE3 _ _ _ ?_
             conv=>whnf
             repeat' (first|exact trivial|((first|refine kL ?_|(refine ⟨fun hb=>?_,fun hb=>?_⟩<;>(try simp only [nrm] at hb)<;>(try (first|(exfalso;omega)|contradiction|exact kB hb)))|refine kW cfg_ok ?_|refine kC ?_|refine bdA ?_|refine bd2 ?_|refine bdR ?_|refine bdL ?_)<;>(conv=>whnf))|(refine And.intro ?_ ?_;rotate_left;(conv=>whnf);rotate_right))
             refine hN2 _ _ ?_
             conv=>whnf
             refine .to (j + 1) (by omega) (by omega) ?_
             conv=>whnf
             repeat' (first|exact trivial|((first|refine kL ?_|(refine ⟨fun hb=>?_,fun hb=>?_⟩<;>(try simp only [nrm] at hb)<;>(try (first|(exfalso;omega)|contradiction|exact kB hb)))|refine kW cfg_ok ?_|refine kC ?_|refine bdA ?_|refine bd2 ?_|refine bdR ?_|refine bdL ?_)<;>(conv=>whnf))|(refine And.intro ?_ ?_;rotate_left;(conv=>whnf);rotate_right))
             all_goals first|rfl|omega|(rw [hS1,hsr];done)|(rw [hS1,hsr];exact List.take_length)|(rw [hS1,hsr];exact rfl)|trace_state
       · obtain rfl : j = R.length:=by omega
         have hend:=ringR_end A bg ((m + 1 : Nat) : Int) R O
         rw [← hsu] at hend
         generalize hS : ringR A bg ((m + 1 : Nat) : Int) R O R.length = S at *
         rw [← hend] at hsp
         conv=>whnf
         repeat' (first|exact trivial|((first|refine kL ?_|(refine ⟨fun hb=>?_,fun hb=>?_⟩<;>(try simp only [nrm] at hb)<;>(try (first|(exfalso;omega)|contradiction|exact kB hb)))|refine kW cfg_ok ?_|refine kC ?_|refine bdA ?_|refine bd2 ?_|refine bdR ?_|refine bdL ?_)<;>(conv=>whnf))|(refine And.intro ?_ ?_;rotate_left;(conv=>whnf);rotate_right))
         all_goals first|omega|skip
         refine hE2 _ _ _ ?_
         conv=>whnf
         repeat' (first|exact trivial|((first|refine kL ?_|(refine ⟨fun hb=>?_,fun hb=>?_⟩<;>(try simp only [nrm] at hb)<;>(try (first|(exfalso;omega)|contradiction|exact kB hb)))|refine kW cfg_ok ?_|refine kC ?_|refine bdA ?_|refine bd2 ?_|refine bdR ?_|refine bdL ?_)<;>(conv=>whnf))|(refine And.intro ?_ ?_;rotate_left;(conv=>whnf);rotate_right))
         all_goals first|omega|skip
         · rename_i hk
           have hfin : spreadP A e bg 0 M = (m + 1,true):=by rw [← hsp,if_pos (by assumption)]
           first|refine hT1 _ _ ?_|refine hE1 _ _ _ ?_|refine hN1 _ _ ?_
           conv=>whnf
           repeat' (first|exact trivial|((first|refine kL ?_|(refine ⟨fun hb=>?_,fun hb=>?_⟩<;>(try simp only [nrm] at hb)<;>(try (first|(exfalso;omega)|contradiction|exact kB hb)))|refine kW cfg_ok ?_|refine kC ?_|refine bdA ?_|refine bd2 ?_|refine bdR ?_|refine bdL ?_)<;>(conv=>whnf))|(refine And.intro ?_ ?_;rotate_left;(conv=>whnf);rotate_right))
           all_goals first|rfl|omega|(rw [hfin];done)|(rw [hfin,← hend];done)|(rw [hfin,← hend];exact rfl)|trace_state
         · have hnx : spreadP A e bg (m + 1) (M - (m + 1)) = spreadP A e bg 0 M:=by rw [← hsp,if_neg];intro h;simp_all
           first|refine hN1 _ _ ?_|refine hT1 _ _ ?_
           conv=>whnf
           refine .to (m + 1) ⟨by omega,hnx⟩ (by omega) ?_
           conv=>whnf
           repeat' (first|exact trivial|((first|refine kL ?_|(refine ⟨fun hb=>?_,fun hb=>?_⟩<;>(try simp only [nrm] at hb)<;>(try (first|(exfalso;omega)|contradiction|exact kB hb)))|refine kW cfg_ok ?_|refine kC ?_|refine bdA ?_|refine bd2 ?_|refine bdR ?_|refine bdL ?_)<;>(conv=>whnf))|(refine And.intro ?_ ?_;rotate_left;(conv=>whnf);rotate_right))
           all_goals first|rfl|omega|(rw [← hend];done)|(rw [← hend];exact rfl)|(rw [← hend];exact List.take_length)|trace_state
   · have hfin : spreadP A e bg 0 M = (m,false):=by rw [← hsp];exact spread_stop hmM hgo
     conv=>whnf
     repeat' (first|exact trivial|((first|refine kL ?_|(refine ⟨fun hb=>?_,fun hb=>?_⟩<;>(try simp only [nrm] at hb)<;>(try (first|(exfalso;omega)|contradiction|exact kB hb)))|refine kW cfg_ok ?_|refine kC ?_|refine bdA ?_|refine bd2 ?_|refine bdR ?_|refine bdL ?_)<;>(conv=>whnf))|(refine And.intro ?_ ?_;rotate_left;(conv=>whnf);rotate_right))
     all_goals first|omega|skip
     all_goals
       first|refine hE1 _ _ _ ?_|refine hT1 _ _ ?_|refine hN1 _ _ ?_
       conv=>whnf
       repeat' (first|exact trivial|((first|refine kL ?_|(refine ⟨fun hb=>?_,fun hb=>?_⟩<;>(try simp only [nrm] at hb)<;>(try (first|(exfalso;omega)|contradiction|exact kB hb)))|refine kW cfg_ok ?_|refine kC ?_|refine bdA ?_|refine bd2 ?_|refine bdR ?_|refine bdL ?_)<;>(conv=>whnf))|(refine And.intro ?_ ?_;rotate_left;(conv=>whnf);rotate_right))
       all_goals first|rfl|omega|(rw [hfin];done)|(rw [hfin];exact rfl)|trace_state
open Go Go.RowKit Eng
def nearer (F A : PF) (d : Int) (c s : Pos) : Bool:=(decide (F (addP c s).x (addP c s).y = some d)) && decide (getZ (A (addP c s).x (addP c s).y) = 1)
def cmdOf (s : Pos) : Cmd:=⟨2,s.x,s.y,0,0⟩
def toldC (F A : PF) : Nat → Pos → List Cmd
 | 0,_=>[]
 | d + 1,c=>match stepsL.find? (nearer F A (d : Nat) c) with
   | some s=>cmdOf s :: toldC F A d (addP c s)
   | none=>[]
def airOf (w : Wld) (e : Pos) (most : Int) : PF × Nat:=
 laidA w (max (e.x - most) 0 / 8) (max (e.y - most) 0 / 8) (min ((e.x + most) / 8) (w.size - 1) + 1 - max (e.x - most) 0 / 8).toNat (min ((e.y + most) / 8) (w.size - 1) + 1 - max (e.y - most) 0 / 8).toNat
def wayP (w : Wld) (e bg : Pos) (most : Int) : List Cmd × Int:=
 if getZ ((airOf w e most).1 e.x e.y) = 0 then ([],107)
 else if (spreadP (airOf w e most).1 e bg 0 most.toNat).2 = false then ([],107)
 else (toldC (roundsP (airOf w e most).1 e bg (spreadP (airOf w e most).1 e bg 0 most.toNat).1).1.1 (airOf w e most).1 (spreadP (airOf w e most).1 e bg 0 most.toNat).1 bg,0)
def pathW (w : Wld) (id x y most : Int) : List Cmd × Int:=
 if most < 0 ∨ 64 < most then ([],2)
 else if rightW w = false then ([],113)
 else if (playerW w id).2 = false then ([],110)
 else if ¬ (0 ≤ x ∧ 0 ≤ y ∧ x < 8 * w.size ∧ y < 8 * w.size) then ([],102)
 else if (playerW w id).1.x = x ∧ (playerW w id).1.y = y then ([],0)
 else wayP w ⟨x,y⟩ ⟨(playerW w id).1.x,(playerW w id).1.y⟩ most
def airW (w : Wld) (b : Pos) : Prop:=0 ≤ b.x ∧ 0 ≤ b.y ∧ b.x < 8 * w.size ∧ b.y < 8 * w.size ∧ cellAt w b.x b.y = 0
theorem air_part {w : Wld} (hR : RW w) {e : Pos} {most : Int} (hm : 0 ≤ most) (b : Pos) (hb : e.x - most.toNat ≤ b.x ∧ b.x ≤ e.x + most.toNat ∧ e.y - most.toNat ≤ b.y ∧ b.y ≤ e.y + most.toNat) : airP (airOf w e most).1 b ↔ airW w b:=by
 have hs:=hR.size
 unfold airP airOf
 rw [laidA_get]
 unfold airW
 by_cases hc : cellAt w b.x b.y = 0
 · constructor
   · intro h
     split at h
     · rename_i h2;exact ⟨by omega,by omega,by omega,by omega,hc⟩
     · cases h
   · rintro ⟨h1,h2,h3,h4,_⟩
     rw [if_pos ⟨by omega,by omega,by omega,by omega,hc⟩];rfl
 · rw [if_neg (fun h=>hc h.2.2.2.2)]
   exact ⟨fun h=>(by cases h),fun h=>absurd h.2.2.2.2 hc⟩
theorem air_zero {w : Wld} {e b : Pos} {most : Int} : getZ ((airOf w e most).1 b.x b.y) = 0 ↔ ¬ airP (airOf w e most).1 b:=by
 unfold airP airOf
 rw [laidA_get]
 split
 · exact ⟨fun h=>(by cases h),fun h=>absurd rfl h⟩
 · exact ⟨fun _ h=>(by cases h),fun _=>rfl⟩
theorem find_next {p : Pos → Bool} {q : Pos → Prop} (h : ∀ s,p s = true ↔ q s) : ∀ {l : List Pos} {s : Pos},l.find? p = some s → ∃ k : Nat,l[k]? = some s ∧ q s ∧ ∀ j s',j < k → l[j]? = some s' → ¬ q s':=by
 intro l
 induction l with
 | nil=>intro s h;cases h
 | cons a r ih =>
   intro s hf
   rw [List.find?_cons] at hf
   cases hp : p a with
   | true =>
     rw [hp] at hf
     cases hf
     exact ⟨0,rfl,(h a).1 hp,fun j s' hj=>by omega⟩
   | false =>
     rw [hp] at hf
     obtain ⟨k,h1,h2,h3⟩:=ih hf
     refine ⟨k + 1,by simpa using h1,h2,fun j s' hj hs=>?_⟩
     cases j with
     | zero=>simp at hs;subst hs;intro hq;rw [(h a).2 hq] at hp;cases hp
     | succ j=>exact h3 j s' (by omega) (by simpa using hs)
theorem nearer_iff {A : PF} {e bg : Pos} {n d : Nat} {off : PF} {ring : List Pos} (h : Inv A e bg n off ring) (hd : d ≤ n) (c s : Pos) : nearer off A (d : Nat) c s = true ↔ airP A (addP c s) ∧ fst (airP A) e d (addP c s):=by
 rw [← told_off h hd]
 unfold nearer
 rw [Bool.and_eq_true,decide_eq_true_eq,decide_eq_true_eq]
 constructor
 · rintro ⟨h1,h2⟩;exact ⟨⟨_,h1,rfl⟩,h2⟩
 · rintro ⟨⟨z,h1,rfl⟩,h2⟩;exact ⟨h1,h2⟩
theorem told_of {A : PF} {e bg : Pos} {n : Nat} {off : PF} {ring : List Pos} (h : Inv A e bg n off ring) : ∀ {d : Nat} {c : Pos},d ≤ n → fst (airP A) e d c → ∃ ls,toldC off A d c = ls.map cmdOf ∧ Told (airP A) e d c ls:=by
 intro d
 induction d with
 | zero=>intro c _ _;exact ⟨[],rfl,rfl⟩
 | succ d ih =>
   intro c hd hf
   cases hq : stepsL.find? (nearer off A (d : Nat) c) with
   | none =>
     obtain ⟨s,hs,ha,hf2⟩:=fst_step hf
     rw [List.find?_eq_none] at hq
     exact absurd ((nearer_iff h (by omega) c s).2 ⟨ha,hf2⟩) (hq s hs)
   | some s =>
     have hn:=find_next (nearer_iff h (show d ≤ n by omega) c) hq
     obtain ⟨ls,h1,h2⟩:=ih (c:=addP c s) (by omega) (by obtain ⟨_,_,h3,_⟩:=hn;exact h3.2)
     refine ⟨s :: ls,?_,s,ls,rfl,hn,h2⟩
     show (match stepsL.find? (nearer off A (d : Nat) c) with|some s=>cmdOf s :: toldC off A d (addP c s)|none=>[]) = _
     rw [hq]
     show cmdOf s :: toldC off A d (addP c s) = _
     rw [h1];rfl
theorem way_spec {w : Wld} (hR : RW w) {e bg : Pos} {most : Int} (hm : 0 ≤ most) (hne : ¬ bg = e) :
   ((wayP w e bg most).2 = 0 ∧ airW w e ∧ ∃ d : Nat,d ≤ most.toNat ∧ fst (airW w) e d bg ∧ ∃ ls,(wayP w e bg most).1 = ls.map cmdOf ∧ Told (airW w) e d bg ls)
   ∨ (wayP w e bg most = ([],107) ∧ (¬ airW w e ∨ ∀ d : Nat,d ≤ most.toNat → ¬ fst (airW w) e d bg)):=by
 have hpt:=fun b hb=>air_part (e:=e) hR hm b hb
 have hself:=hpt e (by omega)
 unfold wayP
 by_cases h0 : getZ ((airOf w e most).1 e.x e.y) = 0
 · rw [if_pos h0]
   exact .inr ⟨rfl,.inl fun ha=>(air_zero.1 h0) (hself.2 ha)⟩
 · rw [if_neg h0]
   have he : airP (airOf w e most).1 e:=Classical.byContradiction fun h=>h0 (air_zero.2 h)
   have hz : ∀ m,m ≤ 0 → ¬ fst (airP (airOf w e most).1) e m bg:=fun m hm hf=>by
     obtain rfl : m = 0:=by omega
     exact hne hf.1
   cases hs : (spreadP (airOf w e most).1 e bg 0 most.toNat).2 with
   | false =>
     rw [if_pos rfl]
     refine .inr ⟨rfl,.inr fun d hd hf=>?_⟩
     exact spread_false he _ 0 hz hs d (by omega) ((fst_part hpt (by omega)).2 hf)
   | true =>
     rw [if_neg (by simp)]
     have hf:=spread_true he _ 0 hz hs
     have hle:=(spread_le (A:=(airOf w e most).1) (e:=e) (bg:=bg) most.toNat 0).2
     obtain ⟨ls,h1,h2⟩:=told_of (inv_rounds he _) (Nat.le_refl _) hf
     exact .inl ⟨rfl,hself.1 he,_,by omega,(fst_part hpt (by omega)).1 hf,ls,h1,told_part hpt (by omega) h2⟩
open Go Go.RowKit Eng
theorem pto_ev (c s : Pos) (hc : -1000 ≤ c.x ∧ c.x ≤ 1000 ∧ -1000 ≤ c.y ∧ c.y ≤ 1000) (hs : -1 ≤ s.x ∧ s.x ≤ 1 ∧ -1 ≤ s.y ∧ s.y ≤ 1) : Ev1 Try.prog 92 [.agg [i64 s.x,i64 s.y],.ptr 0 0] [(0,.box [i64 c.x,i64 c.y])] (.agg [i64 (c.x + s.x),i64 (c.y + s.y)]) [(0,.box [i64 c.x,i64 c.y])]:=by
 refine Ev1.of_fin cfg_ok Try.func92 rfl (nt:=13) rfl rfl rfl ?_
 conv=>whnf
 repeat' (first|exact trivial|((first|refine kL ?_|(refine ⟨fun hb=>?_,fun hb=>?_⟩<;>(try simp only [nrm] at hb)<;>(try (first|(exfalso;omega)|contradiction|exact kB hb)))|refine kW cfg_ok ?_|refine kC ?_|refine bdA ?_|refine bd2 ?_|refine bdR ?_|refine bdL ?_)<;>(conv=>whnf))|(refine And.intro ?_ ?_;rotate_left;(conv=>whnf);rotate_right))
 all_goals first|rfl|omega|trace_state
abbrev toF : AV:=.clo (.func 92) [] [.ptr 4 0]
abbrev nearM (A F : PF) (nA nF : Nat) (c : Pos) : Mem:=[(0,.box [.ptr 6 0]),(2,.box [toF]),(4,.box [i64 c.x,i64 c.y]),(6,.box [.mp 1,.mp 3]),(1,.pm .i64 A nA),(3,.pm .i64 F nF)]
theorem pnear_ev (A F : PF) (nA nF : Nat) (c s : Pos) (d : Nat) (hd : F c.x c.y = some ((d : Int) + 1)) (hd2 : d ≤ 1000) (hF : ∀ x y v,F x y = some v → 0 ≤ v ∧ v ≤ 1000) (hc : -1000 ≤ c.x ∧ c.x ≤ 1000 ∧ -1000 ≤ c.y ∧ c.y ≤ 1000) (hs : -1 ≤ s.x ∧ s.x ≤ 1 ∧ -1 ≤ s.y ∧ s.y ≤ 1) : Ev1 Try.prog 94 [.agg [i64 s.x,i64 s.y],.ptr 0 0,.ptr 2 0,.ptr 4 0] (nearM A F nA nF c) (bol (nearer F A (d : Nat) c s)) (nearM A F nA nF c):=by
 have ht:=pto_ev c s hc hs
 have hg : getZ (F c.x c.y) = (d : Int) + 1:=by rw [hd];rfl
 have hN : nearer F A (d : Nat) c s = true ↔ (F (c.x + s.x) (c.y + s.y)).isSome = true ∧ getZ (F (c.x + s.x) (c.y + s.y)) = d ∧ getZ (A (c.x + s.x) (c.y + s.y)) = 1:=by
   unfold nearer addP
   dsimp only
   rw [Bool.and_eq_true,decide_eq_true_eq,decide_eq_true_eq]
   cases hf : F (c.x + s.x) (c.y + s.y) with
   | none=>simp
   | some v=>simp [getZ]
 have hbd : 0 ≤ getZ (F (c.x + s.x) (c.y + s.y)) ∧ getZ (F (c.x + s.x) (c.y + s.y)) ≤ 1000:=by
   cases hf : F (c.x + s.x) (c.y + s.y) with
   | none=>simp [getZ]
   | some v=>exact hF _ _ _ hf
 generalize c.x + s.x = bx at *
 generalize c.y + s.y = by_ at *
 obtain ⟨Z,hZ⟩ : ∃ Z,getZ (F c.x c.y) = Z:=⟨_,rfl⟩
 refine Ev1.of_fin cfg_ok Try.func94 rfl (nt:=38) rfl rfl rfl ?_
 conv=>whnf
 repeat' (first|exact trivial|((first|refine kL ?_|(refine ⟨fun hb=>?_,fun hb=>?_⟩<;>(try simp only [nrm] at hb)<;>(try (first|(exfalso;omega)|contradiction|exact kB hb)))|refine kE ht [(0,4)] rfl ?_|refine kF ht [(0,4)] rfl ?_|refine kW cfg_ok ?_|refine kC ?_|refine bdA ?_|refine bd2 ?_|refine bdR ?_|refine bdL ?_)<;>(conv=>whnf))|(refine And.intro ?_ ?_;rotate_left;(conv=>whnf);rotate_right))
 · refine congrArg Value.bool ?_
   rw [Bool.eq_iff_iff,hN,beq_iff_eq]
   exact ⟨fun h=>⟨by assumption,by omega,h⟩,fun h=>h.2.2⟩
 · refine congrArg Value.bool ?_
   rw [Bool.eq_false_iff]
   intro h
   have:=(hN.1 h).2.1
   omega
 · refine congrArg Value.bool ?_
   rw [Bool.eq_false_iff]
   intro h
   have h2:=(hN.1 h).1
   rw [hb] at h2
   cases h2
def idxN (p : Pos → Bool) : List Pos → Nat → Int
 | [],_=>-1
 | a :: r,k=>if p a = true then (k : Int) else idxN p r (k + 1)
theorem pidx_ev (A F : PF) (nA nF : Nat) (c : Pos) (d : Nat) (hd : F c.x c.y = some ((d : Int) + 1)) (hd2 : d ≤ 1000) (hF : ∀ x y v,F x y = some v → 0 ≤ v ∧ v ≤ 1000) (hc : -1000 ≤ c.x ∧ c.x ≤ 1000 ∧ -1000 ≤ c.y ∧ c.y ≤ 1000) :
   Ev1 Try.prog 93 [.own .pos 8 0 8 (some 8),.clo (.func 94) [] [.ptr 0 0,.ptr 2 0,.ptr 4 0]] ((8,.row .pos stepsL) :: nearM A F nA nF c) (i64 (idxN (nearer F A (d : Nat) c) stepsL 0)) ((8,.row .pos stepsL) :: nearM A F nA nF c):=by
 refine Ev1.of_fin cfg_ok Try.func93 rfl (nt:=17) rfl rfl rfl ?_
 conv=>whnf
 refine Runs.loopS cfg_ok (σ:=Nat) [0,1,7,8] (fun k=>[.own .pos 8 0 8 none,.clo (.func 94) [] [.ptr 0 0,.ptr 2 0,.ptr 4 0],i64 (8 : Nat),i64 k]) (fun _=>(8,.row .pos stepsL) :: nearM A F nA nF c) (fun k=>k ≤ 8 ∧ idxN (nearer F A (d : Nat) c) (stepsL.drop k) k = idxN (nearer F A (d : Nat) c) stepsL 0) (fun k=>8 - k) 0 ⟨by omega,rfl⟩ ?_ ?_
 · conv=>whnf
   repeat' (first|exact trivial|((first|refine kL ?_|(refine ⟨fun hb=>?_,fun hb=>?_⟩<;>(try simp only [nrm] at hb)<;>(try (first|(exfalso;omega)|contradiction|exact kB hb)))|refine kW cfg_ok ?_|refine kC ?_|refine bdA ?_|refine bd2 ?_|refine bdR ?_|refine bdL ?_)<;>(conv=>whnf))|(refine And.intro ?_ ?_;rotate_left;(conv=>whnf);rotate_right))
   all_goals first|rfl|omega|exact Nat.le_refl 8|trace_state
 · rintro k ⟨hk,he⟩
   by_cases hlt : k < 8
   · have hl : k < stepsL.length:=hlt
     rw [drop_elt (t:=.pos) hl] at he
     simp only [idxN] at he
     have hcl:=pnear_ev A F nA nF c (elt .pos stepsL k) d hd hd2 hF hc (steps_bd (elt_mem (t:=.pos) hl))
     have hl8 : stepsL.length = 8:=rfl
     cases hP : nearer F A (d : Nat) c (elt .pos stepsL k) with
     | true =>
       rw [hP] at he hcl
       conv=>whnf
       repeat' (first|exact trivial|((first|refine kL ?_|(refine ⟨fun hb=>?_,fun hb=>?_⟩<;>(try simp only [nrm] at hb)<;>(try (first|(exfalso;omega)|contradiction|exact kB hb)))|refine kE hcl [(0,0),(2,2),(4,4),(6,6),(1,1),(3,3)] rfl ?_|refine kF hcl [(0,0),(2,2),(4,4),(6,6),(1,1),(3,3)] rfl ?_|refine kW cfg_ok ?_|refine kC ?_|refine bdA ?_|refine bd2 ?_|refine bdR ?_|refine bdL ?_)<;>(conv=>whnf))|(refine And.intro ?_ ?_;rotate_left;(conv=>whnf);rotate_right))
       all_goals first|(rw [← he];rfl)|omega|trace_state
     | false =>
       rw [hP] at he hcl
       conv=>whnf
       repeat' (first|exact trivial|((first|refine kL ?_|(refine ⟨fun hb=>?_,fun hb=>?_⟩<;>(try simp only [nrm] at hb)<;>(try (first|(exfalso;omega)|contradiction|exact kB hb)))|refine kE hcl [(0,0),(2,2),(4,4),(6,6),(1,1),(3,3)] rfl ?_|refine kF hcl [(0,0),(2,2),(4,4),(6,6),(1,1),(3,3)] rfl ?_|refine kW cfg_ok ?_|refine kC ?_|refine bdA ?_|refine bd2 ?_|refine bdR ?_|refine bdL ?_)<;>(conv=>whnf))|(refine And.intro ?_ ?_;rotate_left;(conv=>whnf);rotate_right))
       all_goals first|omega|skip
       refine .to (k + 1) ⟨hlt,?_⟩ (by omega) ?_
       · rw [← he];rfl
       · conv=>whnf
         repeat' (first|exact trivial|((first|refine kL ?_|(refine ⟨fun hb=>?_,fun hb=>?_⟩<;>(try simp only [nrm] at hb)<;>(try (first|(exfalso;omega)|contradiction|exact kB hb)))|refine kW cfg_ok ?_|refine kC ?_|refine bdA ?_|refine bd2 ?_|refine bdR ?_|refine bdL ?_)<;>(conv=>whnf))|(refine And.intro ?_ ?_;rotate_left;(conv=>whnf);rotate_right))
         all_goals first|omega|rfl|trace_state
   · obtain rfl : k = 8:=by omega
     have hn : stepsL.drop 8 = []:=rfl
     rw [hn] at he
     simp only [idxN] at he
     rw [← he]
     conv=>whnf
     repeat' (first|exact trivial|((first|refine kL ?_|(refine ⟨fun hb=>?_,fun hb=>?_⟩<;>(try simp only [nrm] at hb)<;>(try (first|(exfalso;omega)|contradiction|exact kB hb)))|refine kW cfg_ok ?_|refine kC ?_|refine bdA ?_|refine bd2 ?_|refine bdR ?_|refine bdL ?_)<;>(conv=>whnf))|(refine And.intro ?_ ?_;rotate_left;(conv=>whnf);rotate_right))
     all_goals first|omega|rfl|trace_state
theorem idxN_find {p : Pos → Bool} : ∀ {l : List Pos} {s : Pos} (j : Nat),l.find? p = some s → ∃ K : Nat,idxN p l j = ((K + j : Nat) : Int) ∧ K < l.length ∧ elt .pos l K = s ∧ p s = true:=by
 intro l
 induction l with
 | nil=>intro s j h;cases h
 | cons a r ih =>
   intro s j h
   rw [List.find?_cons] at h
   cases hp : p a with
   | true =>
     rw [hp] at h
     cases h
     exact ⟨0,by unfold idxN;rw [if_pos hp,Nat.zero_add],by simp,rfl,hp⟩
   | false =>
     rw [hp] at h
     obtain ⟨K,h1,h2,h3,h4⟩:=ih (j + 1) h
     refine ⟨K + 1,?_,by rw [List.length_cons];omega,h3,h4⟩
     unfold idxN
     rw [if_neg (by rw [hp];simp),h1]
     congr 1;omega
theorem told_row (out : List Cmd) (s : Pos) : List.take (out.length + (List.take 1 (List.drop 0 [(⟨2,s.x,s.y,0,0⟩ : Cmd)])).length) (List.take out.length out ++ List.take 1 (List.drop 0 [(⟨2,s.x,s.y,0,0⟩ : Cmd)])) = out ++ [cmdOf s]:=by
 simp only [List.drop_zero,List.take_length]
 exact List.take_of_length_le (by simp)
def blk7 : Nat → Blk
 | 0=>.box [i64 (-1),i64 (-1),i64 0,i64 (-1),i64 1,i64 (-1),i64 (-1),i64 0,i64 1,i64 0,i64 (-1),i64 1,i64 0,i64 1,i64 1,i64 1]
 | _ + 1=>.row .pos stepsL
theorem toldC_succ {F A : PF} {d : Nat} {c s : Pos} (h : stepsL.find? (nearer F A (d : Nat) c) = some s) : toldC F A (d + 1) c = cmdOf s :: toldC F A d (addP c s):=by
 show (match stepsL.find? (nearer F A (d : Nat) c) with|some s=>cmdOf s :: toldC F A d (addP c s)|none=>[]) = _
 rw [h]
theorem ptold_ev (A F : PF) (nA nF : Nat) (c0 : Pos) (D : Nat) (hD : F c0.x c0.y = some (D : Int)) (hD2 : D ≤ 64) (hF : ∀ x y v,F x y = some v → 0 ≤ v ∧ v ≤ 1000) (hfind : ∀ (d : Nat) (c : Pos),F c.x c.y = some ((d : Int) + 1) → ∃ s,stepsL.find? (nearer F A (d : Nat) c) = some s) (hbox : ∀ b : Pos,getZ (A b.x b.y) = 1 → inBox b) (hc0 : 0 ≤ c0.x ∧ c0.x ≤ 1000 ∧ 0 ≤ c0.y ∧ c0.y ≤ 1000) :
   Ev1 Try.prog 56 [.ptr 0 0,.agg [i64 c0.x,i64 c0.y]] [(0,.box [.mp 1,.mp 3]),(1,.pm .i64 A nA),(3,.pm .i64 F nF)] (.vec .cmd (toldC F A D c0)) [(0,.box [.mp 1,.mp 3]),(1,.pm .i64 A nA),(3,.pm .i64 F nF)]:=by
 have hst:=steps_api
 refine Ev1.of_fin cfg_ok Try.func56 rfl (nt:=37) rfl rfl rfl ?_
 conv=>whnf
 repeat' (first|exact trivial|((first|refine kL ?_|(refine ⟨fun hb=>?_,fun hb=>?_⟩<;>(try simp only [nrm] at hb)<;>(try (first|(exfalso;omega)|contradiction|exact kB hb)))|refine kA hst ?_|refine kD hst ?_|refine kW cfg_ok ?_|refine kC ?_|refine bdA ?_|refine bd2 ?_|refine bdR ?_|refine bdL ?_)<;>(conv=>whnf))|(refine And.intro ?_ ?_;rotate_left;(conv=>whnf);rotate_right))
 all_goals first|omega|skip
 refine Runs.loopS cfg_ok (σ:=Nat × Pos × List Cmd) [2,3,5,6,7] (fun (_,_,out)=>[.ptr 200004 0,.ptr 200006 0,.own .cmd 350001 0 out.length none,.ptr 200012 0,.ptr 200014 0])
   (fun (i,c,out)=>[(0,.box [.mp 1,.mp 3]),(1,.pm .i64 A nA),(3,.pm .i64 F nF),(200004,.box [.ptr 0 0]),(200006,.box [i64 c.x,i64 c.y]),(200012,.box [.clo (.func 92) [] [.ptr 200006 0]]),(200014,blk7 i),(350001,.row .cmd out)])
   (fun (i,c,out)=>i ≤ D ∧ out.length = i ∧ F c.x c.y = some ((D - i : Nat) : Int) ∧ out ++ toldC F A (D - i) c = toldC F A D c0 ∧ 0 ≤ c.x ∧ c.x ≤ 1000 ∧ 0 ≤ c.y ∧ c.y ≤ 1000) (fun (i,_,_)=>D - i) (0,c0,[]) ⟨Nat.zero_le _,rfl,hD,rfl,hc0⟩ ?_ ?_
 · conv=>whnf
   repeat' (first|exact trivial|((first|refine kL ?_|(refine ⟨fun hb=>?_,fun hb=>?_⟩<;>(try simp only [nrm] at hb)<;>(try (first|(exfalso;omega)|contradiction|exact kB hb)))|refine kW cfg_ok ?_|refine kC ?_|refine bdA ?_|refine bd2 ?_|refine bdR ?_|refine bdL ?_)<;>(conv=>whnf))|(refine And.intro ?_ ?_;rotate_left;(conv=>whnf);rotate_right))
   all_goals first|rfl|omega|trace_state
 · rintro ⟨i,c,out⟩ ⟨hi,hol,hFc,htl,hcb⟩
   by_cases hlt : i < D
   · obtain ⟨d,hd⟩ : ∃ d,D - i = d + 1:=⟨D - i - 1,by omega⟩
     rw [hd] at hFc htl
     have hFc1 : F c.x c.y = some ((d : Int) + 1):=hFc
     have hgz : getZ (F c.x c.y) = (d : Int) + 1:=by rw [hFc1];rfl
     obtain ⟨s,hs⟩:=hfind d c hFc1
     have hix:=pidx_ev A F nA nF c d hFc1 (by omega) hF (by omega)
     obtain ⟨K,hK1,hK2,hK3,hK4⟩:=idxN_find 0 hs
     rw [hK1] at hix
     rw [toldC_succ hs] at htl
     have hsb:=steps_bd (List.mem_of_find?_eq_some hs)
     have hto:=pto_ev c s (by omega) hsb
     have hn1 : F (addP c s).x (addP c s).y = some (d : Int) ∧ inBox (addP c s):=by
       unfold nearer at hK4
       rw [Bool.and_eq_true,decide_eq_true_eq,decide_eq_true_eq] at hK4
       exact ⟨hK4.1,hbox _ hK4.2⟩
     have hdd : D - (i + 1) = d:=by omega
     obtain ⟨i0,hi0⟩ : ∃ i0,i0 = i:=⟨i,rfl⟩
     obtain ⟨s0,hs0⟩ : ∃ s0,s0 = s:=⟨s,rfl⟩
     have hinv : i0 + 1 ≤ D ∧ (out ++ [cmdOf s0]).length = i0 + 1 ∧ F (addP c s0).x (addP c s0).y = some ((D - (i0 + 1) : Nat) : Int) ∧ (out ++ [cmdOf s0]) ++ toldC F A (D - (i0 + 1)) (addP c s0) = toldC F A D c0 ∧ 0 ≤ (addP c s0).x ∧ (addP c s0).x ≤ 1000 ∧ 0 ≤ (addP c s0).y ∧ (addP c s0).y ≤ 1000:=by
       rw [hi0,hs0,hdd]
       have hb2:=hn1.2
       unfold inBox at hb2
       refine ⟨by omega,by rw [List.length_append,hol];rfl,hn1.1,?_,by omega,by omega,by omega,by omega⟩
       rw [List.append_assoc];exact htl
     have hrk : D - (i0 + 1) < D - i:=by omega
     clear hn1 htl hs hK4 hfind hF hD hdd hi0
     have h8 : stepsL.length = 8:=rfl
     cases i
     all_goals
       rcases (show K = 0 ∨ K = 1 ∨ K = 2 ∨ K = 3 ∨ K = 4 ∨ K = 5 ∨ K = 6 ∨ K = 7 by omega) with h|h|h|h|h|h|h|h
       all_goals
         subst h
         subst hK3
         conv=>whnf
         repeat' (first|exact trivial|((first|refine kL ?_|(refine ⟨fun hb=>?_,fun hb=>?_⟩<;>(try simp only [nrm] at hb)<;>(try (first|(exfalso;omega)|contradiction|exact kB hb)))|refine kE hix [(8,200014),(0,200004),(2,200012),(4,200006),(6,0),(1,1),(3,3)] rfl ?_|refine kF hix [(8,200014),(0,200004),(2,200012),(4,200006),(6,0),(1,1),(3,3)] rfl ?_|refine kE hto [(0,200006)] rfl ?_|refine kF hto [(0,200006)] rfl ?_|refine kW cfg_ok ?_|refine kC ?_|refine bdA ?_|refine bd2 ?_|refine bdR ?_|refine bdL ?_)<;>(conv=>whnf))|(refine And.intro ?_ ?_;rotate_left;(conv=>whnf);rotate_right))
         all_goals first|omega|skip
         refine .to (i0 + 1,addP c s0,out ++ [cmdOf s0]) hinv hrk ?_
         conv=>whnf
         repeat' (first|exact trivial|((first|refine kL ?_|(refine ⟨fun hb=>?_,fun hb=>?_⟩<;>(try simp only [nrm] at hb)<;>(try (first|(exfalso;omega)|contradiction|exact kB hb)))|refine kW cfg_ok ?_|refine kC ?_|refine bdA ?_|refine bd2 ?_|refine bdR ?_|refine bdL ?_)<;>(conv=>whnf))|(refine And.intro ?_ ?_;rotate_left;(conv=>whnf);rotate_right))
         all_goals first|rfl|omega|(rw [hs0];done)|(rw [hs0];exact rfl)|(rw [hs0];simp;done)|(rw [hs0];exact told_row _ _)|trace_state
   · obtain rfl : i = D:=by omega
     have hz : getZ (F c.x c.y) = 0:=by rw [hFc,Nat.sub_self];rfl
     rw [Nat.sub_self] at htl
     have htl2 : out = toldC F A i c0:=by rw [← htl];simp [toldC]
     conv=>whnf
     repeat' (first|exact trivial|((first|refine kL ?_|(refine ⟨fun hb=>?_,fun hb=>?_⟩<;>(try simp only [nrm] at hb)<;>(try (first|(exfalso;omega)|contradiction|exact kB hb)))|refine kW cfg_ok ?_|refine kC ?_|refine bdA ?_|refine bd2 ?_|refine bdR ?_|refine bdL ?_)<;>(conv=>whnf))|(refine And.intro ?_ ?_;rotate_left;(conv=>whnf);rotate_right))
     all_goals first|rfl|omega|(rw [← htl2];simp;done)|trace_state
open Go Go.RowKit Eng
theorem air_01 (w : Wld) (e : Pos) (most : Int) (x y : Int) : getZ ((airOf w e most).1 x y) = 0 ∨ getZ ((airOf w e most).1 x y) = 1:=by
 unfold airOf
 rw [laidA_get]
 split
 · exact .inr rfl
 · exact .inl rfl
theorem air_box2 {w : Wld} (hR : RW w) {e : Pos} {most : Int} (b : Pos) (h : getZ ((airOf w e most).1 b.x b.y) = 1) : inBox b:=by
 have hs:=hR.size
 unfold airOf at h
 rw [laidA_get] at h
 split at h
 · rename_i h2;unfold inBox;omega
 · cases h
theorem find_some {A : PF} {e bg : Pos} {n d : Nat} {off : PF} {ring : List Pos} (h : Inv A e bg n off ring) {c : Pos} (hc : off c.x c.y = some ((d : Int) + 1)) : ∃ s,stepsL.find? (nearer off A (d : Nat) c) = some s:=by
 obtain ⟨m,hm,hle,hf,_⟩:=(h.off c _).1 hc
 obtain rfl : m = d + 1:=by omega
 obtain ⟨s,hs,ha,hf2⟩:=fst_step hf
 cases hq : stepsL.find? (nearer off A (d : Nat) c) with
 | some s=>exact ⟨s,rfl⟩
 | none =>
   rw [List.find?_eq_none] at hq
   exact absurd ((nearer_iff h (by omega) c s).2 ⟨ha,hf2⟩) (hq s hs)
theorem off_bd {A : PF} {e bg : Pos} {n : Nat} {off : PF} {ring : List Pos} (h : Inv A e bg n off ring) (hn : n ≤ 64) (x y v : Int) (hv : off x y = some v) : 0 ≤ v ∧ v ≤ 1000:=by
 obtain ⟨m,hm,hle,_⟩:=(h.off ⟨x,y⟩ v).1 hv
 omega
theorem ppath_api (w : Wld) (id x y most : Int) (hw : OkW w) : Api Try.prog 22 [wldV w,i64 id,i64 x,i64 y,i64 most] (.tup [.vec .cmd (pathW w id x y most).1,i64 (pathW w id x y most).2]):=by
 have hrt:=rightW_api w hw
 have hpl:=wplayer_api w id hw
 by_cases hm : most < 0 ∨ 64 < most
 · have hs : pathW w id x y most = ([],2):=by unfold pathW;rw [if_pos hm]
   rw [hs]
   refine Api.of_fin cfg_ok Try.func22 rfl (nt:=87) rfl rfl ?_
   conv=>whnf
   repeat' (first|exact trivial|((first|refine kL ?_|(refine ⟨fun hb=>?_,fun hb=>?_⟩<;>(try simp only [nrm] at hb)<;>(try (first|(exfalso;omega)|contradiction|exact kB hb)))|refine kA hrt ?_|refine kD hrt ?_|refine kA hpl ?_|refine kD hpl ?_|refine kW cfg_ok ?_|refine kC ?_|refine bdA ?_|refine bd2 ?_|refine bdR ?_|refine bdL ?_)<;>(conv=>whnf))|(refine And.intro ?_ ?_;rotate_left;(conv=>whnf);rotate_right))
   all_goals first|omega|rfl|trace_state
 cases hR : rightW w with
 | false =>
   rw [hR] at hrt
   have hs : pathW w id x y most = ([],113):=by unfold pathW;rw [if_neg hm,if_pos hR]
   rw [hs]
   refine Api.of_fin cfg_ok Try.func22 rfl (nt:=87) rfl rfl ?_
   conv=>whnf
   repeat' (first|exact trivial|((first|refine kL ?_|(refine ⟨fun hb=>?_,fun hb=>?_⟩<;>(try simp only [nrm] at hb)<;>(try (first|(exfalso;omega)|contradiction|exact kB hb)))|refine kA hrt ?_|refine kD hrt ?_|refine kA hpl ?_|refine kD hpl ?_|refine kW cfg_ok ?_|refine kC ?_|refine bdA ?_|refine bd2 ?_|refine bdR ?_|refine bdL ?_)<;>(conv=>whnf))|(refine And.intro ?_ ?_;rotate_left;(conv=>whnf);rotate_right))
   all_goals first|omega|rfl|trace_state
 | true =>
   rw [hR] at hrt
   have hRW:=rightW_iff.1 hR
   have hsz:=hRW.size
   cases hP : (playerW w id).2 with
   | false =>
     rw [hP] at hpl
     have hs : pathW w id x y most = ([],110):=by unfold pathW;rw [if_neg hm,if_neg (by rw [hR];simp),if_pos hP]
     rw [hs]
     refine Api.of_fin cfg_ok Try.func22 rfl (nt:=87) rfl rfl ?_
     conv=>whnf
     repeat' (first|exact trivial|((first|refine kL ?_|(refine ⟨fun hb=>?_,fun hb=>?_⟩<;>(try simp only [nrm] at hb)<;>(try (first|(exfalso;omega)|contradiction|exact kB hb)))|refine kA hrt ?_|refine kD hrt ?_|refine kA hpl ?_|refine kD hpl ?_|refine kW cfg_ok ?_|refine kC ?_|refine bdA ?_|refine bd2 ?_|refine bdR ?_|refine bdL ?_)<;>(conv=>whnf))|(refine And.intro ?_ ?_;rotate_left;(conv=>whnf);rotate_right))
     all_goals first|omega|rfl|trace_state
   | true =>
     rw [hP] at hpl
     have hpw:=(hRW.players _ (show (playerW w id).1 ∈ w.players by
       unfold playerW at hP ⊢
       rw [if_neg (by rw [hR];simp)] at hP ⊢
       cases hg : getK pid w.players id with
       | some p=>exact (getK_mem hg).1
       | none=>rw [hg] at hP;cases hP)).2
     have hpb:=(within_iff hRW).1 hpw
     generalize hQ : (playerW w id).1 = p at *
     by_cases hin : 0 ≤ x ∧ 0 ≤ y ∧ x < 8 * w.size ∧ y < 8 * w.size
     · by_cases heq : p.x = x ∧ p.y = y
       · have hs : pathW w id x y most = ([],0):=by unfold pathW;rw [if_neg hm,if_neg (by rw [hR];simp),if_neg (by rw [hP];simp),if_neg (not_not_intro hin),hQ,if_pos heq]
         rw [hs]
         refine Api.of_fin cfg_ok Try.func22 rfl (nt:=87) rfl rfl ?_
         conv=>whnf
         repeat' (first|exact trivial|((first|refine kL ?_|(refine ⟨fun hb=>?_,fun hb=>?_⟩<;>(try simp only [nrm] at hb)<;>(try (first|(exfalso;omega)|contradiction|exact kB hb)))|refine kA hrt ?_|refine kD hrt ?_|refine kA hpl ?_|refine kD hpl ?_|refine kW cfg_ok ?_|refine kC ?_|refine bdA ?_|refine bd2 ?_|refine bdR ?_|refine bdL ?_)<;>(conv=>whnf))|(refine And.intro ?_ ?_;rotate_left;(conv=>whnf);rotate_right))
         all_goals first|omega|rfl|trace_state
       · have hs : pathW w id x y most = wayP w ⟨x,y⟩ ⟨p.x,p.y⟩ most:=by unfold pathW;rw [if_neg hm,if_neg (by rw [hR];simp),if_neg (by rw [hP];simp),if_neg (not_not_intro hin),hQ,if_neg heq]
         rw [hs]
         have hla : Ev1 Try.prog 54 [wldV w,.agg [i64 x,i64 y],i64 most] [] (.mp 390001) [(390001,.pm .i64 (airOf w ⟨x,y⟩ most).1 (airOf w ⟨x,y⟩ most).2)]:=
           plaid_ev w ⟨x,y⟩ most hw hRW (by dsimp only;omega) (by omega) _ _ _ _ rfl rfl rfl rfl
         have h01:=air_01 w ⟨x,y⟩ most
         have hbx:=fun b=>air_box2 hRW (e:=⟨x,y⟩) (most:=most) b
         by_cases h0 : getZ ((airOf w ⟨x,y⟩ most).1 x y) = 0
         · have hs2 : wayP w ⟨x,y⟩ ⟨p.x,p.y⟩ most = ([],107):=by unfold wayP;rw [if_pos h0]
           rw [hs2]
           clear hs hs2
           generalize airOf w ⟨x,y⟩ most = A at *
           refine Api.of_fin cfg_ok Try.func22 rfl (nt:=87) rfl rfl ?_
           conv=>whnf
           repeat' (first|exact trivial|((first|refine kL ?_|(refine ⟨fun hb=>?_,fun hb=>?_⟩<;>(try simp only [nrm] at hb)<;>(try (first|(exfalso;omega)|contradiction|exact kB hb)))|refine kE hla [(390001,150001)] rfl ?_|refine kF hla [(390001,150001)] rfl ?_|refine kA hrt ?_|refine kD hrt ?_|refine kA hpl ?_|refine kD hpl ?_|refine kW cfg_ok ?_|refine kC ?_|refine bdA ?_|refine bd2 ?_|refine bdR ?_|refine bdL ?_)<;>(conv=>whnf))|(refine And.intro ?_ ?_;rotate_left;(conv=>whnf);rotate_right))
           all_goals first|omega|rfl|trace_state
         · have he : airP (airOf w ⟨x,y⟩ most).1 ⟨x,y⟩:=by
             rcases h01 x y with h|h
             · exact absurd h h0
             · exact h
           have hspr:=pspread_ev (airOf w ⟨x,y⟩ most).1 (airOf w ⟨x,y⟩ most).2 ⟨x,y⟩ ⟨p.x,p.y⟩ most h01 hbx he (by dsimp only;omega) (by omega)
           have hle:=spread_le (A:=(airOf w ⟨x,y⟩ most).1) (e:=⟨x,y⟩) (bg:=⟨p.x,p.y⟩) most.toNat 0
           have hz : ∀ m,m ≤ 0 → ¬ fst (airP (airOf w ⟨x,y⟩ most).1) ⟨x,y⟩ m ⟨p.x,p.y⟩:=fun m hm hf=>by
             obtain rfl : m = 0:=by omega
             have : (⟨p.x,p.y⟩ : Pos) = ⟨x,y⟩:=hf.1
             exact heq ⟨congrArg Pos.x this,congrArg Pos.y this⟩
           cases hS : (spreadP (airOf w ⟨x,y⟩ most).1 ⟨x,y⟩ ⟨p.x,p.y⟩ 0 most.toNat).2 with
           | false =>
             have hs2 : wayP w ⟨x,y⟩ ⟨p.x,p.y⟩ most = ([],107):=by unfold wayP;rw [if_neg h0,if_pos hS]
             rw [hs2]
             rw [hS] at hspr
             clear hs hs2
             generalize (roundsP (airOf w ⟨x,y⟩ most).1 ⟨x,y⟩ ⟨p.x,p.y⟩ (spreadP (airOf w ⟨x,y⟩ most).1 ⟨x,y⟩ ⟨p.x,p.y⟩ 0 most.toNat).1).1 = O at *
             generalize airOf w ⟨x,y⟩ most = A at *
             refine Api.of_fin cfg_ok Try.func22 rfl (nt:=87) rfl rfl ?_
             conv=>whnf
             repeat' (first|exact trivial|((first|refine kL ?_|(refine ⟨fun hb=>?_,fun hb=>?_⟩<;>(try simp only [nrm] at hb)<;>(try (first|(exfalso;omega)|contradiction|exact kB hb)))|refine kE hla [(390001,150001)] rfl ?_|refine kF hla [(390001,150001)] rfl ?_|refine kE hspr [(0,146),(1,150001),(390001,150003)] rfl ?_|refine kF hspr [(0,146),(1,150001),(390001,150003)] rfl ?_|refine kA hrt ?_|refine kD hrt ?_|refine kA hpl ?_|refine kD hpl ?_|refine kW cfg_ok ?_|refine kC ?_|refine bdA ?_|refine bd2 ?_|refine bdR ?_|refine bdL ?_)<;>(conv=>whnf))|(refine And.intro ?_ ?_;rotate_left;(conv=>whnf);rotate_right))
             all_goals first|omega|rfl|trace_state
           | true =>
             have hs2 : wayP w ⟨x,y⟩ ⟨p.x,p.y⟩ most = (toldC (roundsP (airOf w ⟨x,y⟩ most).1 ⟨x,y⟩ ⟨p.x,p.y⟩ (spreadP (airOf w ⟨x,y⟩ most).1 ⟨x,y⟩ ⟨p.x,p.y⟩ 0 most.toNat).1).1.1 (airOf w ⟨x,y⟩ most).1 (spreadP (airOf w ⟨x,y⟩ most).1 ⟨x,y⟩ ⟨p.x,p.y⟩ 0 most.toNat).1 ⟨p.x,p.y⟩,0):=by
               unfold wayP;rw [if_neg h0,if_neg (by rw [hS];simp)]
             rw [hs2]
             rw [hS] at hspr
             have hft:=spread_true he _ 0 hz hS
             generalize hM : (spreadP (airOf w ⟨x,y⟩ most).1 ⟨x,y⟩ ⟨p.x,p.y⟩ 0 most.toNat).1 = M at *
             have hinv:=inv_rounds (bg:=⟨p.x,p.y⟩) he M
             have hD:=(hinv.off ⟨p.x,p.y⟩ M).2 ⟨M,rfl,Nat.le_refl _,hft,.inr ⟨rfl,rfl⟩⟩
             have htd:=ptold_ev (airOf w ⟨x,y⟩ most).1 (roundsP (airOf w ⟨x,y⟩ most).1 ⟨x,y⟩ ⟨p.x,p.y⟩ M).1.1 (airOf w ⟨x,y⟩ most).2 (roundsP (airOf w ⟨x,y⟩ most).1 ⟨x,y⟩ ⟨p.x,p.y⟩ M).1.2 ⟨p.x,p.y⟩ M hD (by omega) (off_bd hinv (by omega)) (fun d c hc=>find_some hinv hc) hbx (by dsimp only;omega)
             clear hs hs2 hinv hD hft hz hM
             generalize (roundsP (airOf w ⟨x,y⟩ most).1 ⟨x,y⟩ ⟨p.x,p.y⟩ M).1 = O at *
             generalize airOf w ⟨x,y⟩ most = A at *
             generalize toldC O.1 A.1 M ⟨p.x,p.y⟩ = Z at *
             refine Api.of_fin cfg_ok Try.func22 rfl (nt:=87) rfl rfl ?_
             conv=>whnf
             repeat' (first|exact trivial|((first|refine kL ?_|(refine ⟨fun hb=>?_,fun hb=>?_⟩<;>(try simp only [nrm] at hb)<;>(try (first|(exfalso;omega)|contradiction|exact kB hb)))|refine kE hla [(390001,150001)] rfl ?_|refine kF hla [(390001,150001)] rfl ?_|refine kE hspr [(0,146),(1,150001),(390001,150003)] rfl ?_|refine kF hspr [(0,146),(1,150001),(390001,150003)] rfl ?_|refine kE htd [(0,146),(1,150001),(3,150003)] rfl ?_|refine kF htd [(0,146),(1,150001),(3,150003)] rfl ?_|refine kA hrt ?_|refine kD hrt ?_|refine kA hpl ?_|refine kD hpl ?_|refine kW cfg_ok ?_|refine kC ?_|refine bdA ?_|refine bd2 ?_|refine bdR ?_|refine bdL ?_)<;>(conv=>whnf))|(refine And.intro ?_ ?_;rotate_left;(conv=>whnf);rotate_right))
             all_goals first|omega|rfl|trace_state
     · have hs : pathW w id x y most = ([],102):=by unfold pathW;rw [if_neg hm,if_neg (by rw [hR];simp),if_neg (by rw [hP];simp),if_pos hin]
       rw [hs]
       refine Api.of_fin cfg_ok Try.func22 rfl (nt:=87) rfl rfl ?_
       conv=>whnf
       repeat' (first|exact trivial|((first|refine kL ?_|(refine ⟨fun hb=>?_,fun hb=>?_⟩<;>(try simp only [nrm] at hb)<;>(try (first|(exfalso;omega)|contradiction|exact kB hb)))|refine kA hrt ?_|refine kD hrt ?_|refine kA hpl ?_|refine kD hpl ?_|refine kW cfg_ok ?_|refine kC ?_|refine bdA ?_|refine bd2 ?_|refine bdR ?_|refine bdL ?_)<;>(conv=>whnf))|(refine And.intro ?_ ?_;rotate_left;(conv=>whnf);rotate_right))
       all_goals first|omega|rfl|trace_state
end Go.Proofs.Ytchdgiooggdfeaa
