/- Two players who are far from one another: plain laws. -/
import Derived.Test.YtkojlembanldcaaGreatGi
import Derived.Test.YtkojlembanldcaaGreatRb
set_option linter.unusedSimpArgs false
set_option linter.unusedVariables false
set_option maxRecDepth 100000
set_option maxHeartbeats 4000000
namespace Go.Proofs.YtkojlembanldcaaGreat
open Go Go.RowKit Eng
def updW (w : Wld) (ko : Option Chunk) (p : Player) : Wld:=match ko with
 | some k=>withP (withCs w (putL w.seed w.chunks k)) (setL w.players p)
 | none=>withP w (setL w.players p)
inductive Alike (w w' : Wld) (p : Player) : Wld × Int → Wld × Int → Prop where
 | err (e : Int) (r r' : Wld) (h : ¬ e = 0) : Alike w w' p (r,e) (r',e)
 | ok (ko : Option Chunk) (p' : Player) (hi : p'.id = p.id) (hx : p'.x - p.x ≤ 1 ∧ p.x - p'.x ≤ 1 ∧ p'.y - p.y ≤ 1 ∧ p.y - p'.y ≤ 1) (hw : p'.wth = p.wth)
     (hk : ∀ k,ko = some k → rightB k = true ∧ max k.x k.y < w.size ∧ ∃ X Y,nearP p X Y = true ∧ k.x = X / 8 ∧ k.y = Y / 8)
     (h1 : RW (updW w ko p')) (h2 : RW (updW w' ko p')) : Alike w w' p (updW w ko p',0) (updW w' ko p',0)
structure Near (w w' : Wld) (p : Player) (c : Cmd) : Prop where
 size : w'.size = w.size
 h1 : Here w p
 h2 : Here w' p
 place : ∀ X Y,withinW w.size X Y = true → nearP p X Y = true → placeC w' X Y = placeC w X Y
 st : nearP p c.a c.b = true → w'.players.any (standsB c) = w.players.any (standsB c)
theorem set_alike {w w' : Wld} {p p' : Player} {c : Cmd} (h : Near w w' p c) (hi : p'.id = p.id) (hx : p'.x - p.x ≤ 1 ∧ p.x - p'.x ≤ 1 ∧ p'.y - p.y ≤ 1 ∧ p.y - p'.y ≤ 1) (hw : p'.wth = p.wth) : Alike w w' p (setW w p') (setW w' p'):=by
 have g1 : (getK pid w.players p'.id).isSome = true:=by rw [hi,h.h1.get];rfl
 have g2 : (getK pid w'.players p'.id).isSome = true:=by rw [hi,h.h2.get];rfl
 by_cases hok : soundB p' = true ∧ withinW w.size p'.x p'.y = true
 · have o1 : setOk w p':=⟨h.h1.rw,hok.1,hok.2,.inl g1⟩
   have o2 : setOk w' p':=⟨h.h2.rw,hok.1,by rw [h.size];exact hok.2,.inl g2⟩
   rw [set_eq o1,set_eq o2]
   exact .ok none p' hi hx hw (fun k hk=>by cases hk) (rw_set o1) (rw_set o2)
 · have e1 : setW w p' = (w,110):=by
     unfold setW
     rw [if_neg (by rw [rightW_iff.2 h.h1.rw];simp),if_pos (by cases hs : soundB p'<;>cases hi2 : withinW w.size p'.x p'.y<;>simp_all)]
   have e2 : setW w' p' = (w',110):=by
     unfold setW
     rw [if_neg (by rw [rightW_iff.2 h.h2.rw];simp),if_pos (by rw [h.size];cases hs : soundB p'<;>cases hi2 : withinW w.size p'.x p'.y<;>simp_all)]
   rw [e1,e2];exact .err 110 _ _ (by decide)
theorem keep_alike {w w' : Wld} {p p' : Player} {c : Cmd} {k : Chunk} (h : Near w w' p c) (hi : p'.id = p.id) (hx : p'.x = p.x) (hy : p'.y = p.y) (hw : p'.wth = p.wth) (hk : rightB k = true) (hm : max k.x k.y < w.size) (X Y : Int) (hN : nearP p X Y = true) (hkx : k.x = X / 8) (hky : k.y = Y / 8) :
   Alike w w' p (keepA w k p') (keepA w' k p'):=by
 have q1:=put_eq h.h1.rw hk hm
 have q2:=put_eq h.h2.rw hk (by rw [h.size];exact hm)
 have r1:=rw_put h.h1.rw hk hm
 have r2:=rw_put h.h2.rw hk (by rw [h.size];exact hm)
 have g1 : (getK pid w.players p'.id).isSome = true:=by rw [hi,h.h1.get];rfl
 have g2 : (getK pid w'.players p'.id).isSome = true:=by rw [hi,h.h2.get];rfl
 unfold keepA
 rw [q1,q2,if_neg (not_not_intro rfl),if_neg (not_not_intro rfl)]
 dsimp only
 by_cases hok : soundB p' = true ∧ withinW w.size p'.x p'.y = true
 · have o1 : setOk (withCs w (putL w.seed w.chunks k)) p':=⟨r1,hok.1,hok.2,.inl g1⟩
   have o2 : setOk (withCs w' (putL w'.seed w'.chunks k)) p':=⟨r2,hok.1,by show withinW w'.size _ _ = true;rw [h.size];exact hok.2,.inl g2⟩
   rw [set_eq o1,set_eq o2]
   exact .ok (some k) p' hi (by omega) hw (fun k' hk'=>by cases hk';exact ⟨hk,hm,X,Y,hN,hkx,hky⟩) (rw_set o1) (rw_set o2)
 · have e1 : setW (withCs w (putL w.seed w.chunks k)) p' = (withCs w (putL w.seed w.chunks k),110):=by
     unfold setW
     rw [if_neg (by rw [rightW_iff.2 r1];simp),if_pos (by show soundB p' = false ∨ withinW w.size p'.x p'.y = false;cases hs : soundB p'<;>cases hi2 : withinW w.size p'.x p'.y<;>simp_all)]
   have e2 : setW (withCs w' (putL w'.seed w'.chunks k)) p' = (withCs w' (putL w'.seed w'.chunks k),110):=by
     unfold setW
     rw [if_neg (by rw [rightW_iff.2 r2];simp),if_pos (by show soundB p' = false ∨ withinW w'.size p'.x p'.y = false;rw [h.size];cases hs : soundB p'<;>cases hi2 : withinW w.size p'.x p'.y<;>simp_all)]
   rw [e1,e2];exact .err 110 _ _ (by decide)
theorem place_max {w : Wld} {X Y : Int} (hR : RW w) (h : withinW w.size X Y = true) : max (X / 8) (Y / 8) < w.size:=by
 have:=(within_iff hR).1 h;omega
theorem aim_alike {w w' : Wld} {p : Player} {c : Cmd} (h : Near w w' p c) (x y : Int) : aimE w' p x y = aimE w p x y:=by unfold aimE;rw [h.size]
theorem move_alike {w w' : Wld} {p : Player} {c : Cmd} (h : Near w w' p c) (ha : -1 ≤ c.a ∧ c.a ≤ 1) (hb : -1 ≤ c.b ∧ c.b ≤ 1) : Alike w w' p (moveA w p c) (moveA w' p c):=by
 unfold moveA
 rw [h.size]
 by_cases h1 : withinW w.size (p.x + c.a) (p.y + c.b) = false
 · rw [if_pos h1,if_pos h1];exact .err 102 _ _ (by decide)
 · have h1' : withinW w.size (p.x + c.a) (p.y + c.b) = true:=by simpa using h1
   rw [if_neg h1,if_neg h1,at_place h.h1.rw h1',at_place h.h2.rw (by rw [h.size];exact h1'),h.place _ _ h1' (by unfold nearP;simp only [Bool.and_eq_true,decide_eq_true_eq];omega)]
   dsimp only
   by_cases h2 : ¬ cellA (placeC w (p.x + c.a) (p.y + c.b)) (placeI (p.x + c.a) (p.y + c.b)) = 0
   · rw [if_pos h2,if_pos h2];exact .err 107 _ _ (by decide)
   · rw [if_neg h2,if_neg h2]
     exact set_alike h rfl (by dsimp only;omega) rfl
theorem break_alike {w w' : Wld} {p : Player} {c : Cmd} (h : Near w w' p c) : Alike w w' p (breakA w p c) (breakA w' p c):=by
 unfold breakA
 rw [aim_alike h]
 by_cases h1 : ¬ aimE w p c.a c.b = 0
 · rw [if_pos h1,if_pos h1];exact .err _ _ _ h1
 · rw [if_neg h1,if_neg h1]
   have hin:=aim_in (Decidable.not_not.1 h1)
   rw [h.place _ _ hin.1 hin.2]
   obtain ⟨hK,hKx,hKy⟩:=place_right h.h1.rw hin.1
   have hI:=placeI_bd c.a c.b
   generalize placeC w c.a c.b = K at *
   generalize placeI c.a c.b = I at *
   by_cases h2 : cellA K I = 0
   · rw [if_pos h2,if_pos h2];exact .err 107 _ _ (by decide)
   · rw [if_neg h2,if_neg h2]
     by_cases h3 : ¬ (setC K I 0).2 = 0
     · rw [if_pos h3,if_pos h3];exact .err _ _ _ h3
     · rw [if_neg h3,if_neg h3]
       by_cases h4 : 0 < (putS p.bag (givesI (cellA K I)) 1).2
       · rw [if_pos h4,if_pos h4];exact .err 104 _ _ (by decide)
       · rw [if_neg h4,if_neg h4]
         have hxy:=setC_xy K I 0
         exact keep_alike h rfl rfl rfl rfl (right_setC hK hI.1 hI.2) (by rw [hxy.1,hxy.2,hKx,hKy];exact place_max h.h1.rw hin.1) c.a c.b hin.2 (hxy.1.trans hKx) (hxy.2.trans hKy)
theorem place_alike {w w' : Wld} {p : Player} {c : Cmd} (h : Near w w' p c) : Alike w w' p (placeA w p c) (placeA w' p c):=by
 unfold placeA
 rw [aim_alike h]
 by_cases h1 : ¬ aimE w p c.a c.b = 0
 · rw [if_pos h1,if_pos h1];exact .err _ _ _ h1
 · rw [if_neg h1,if_neg h1]
   have hin:=aim_in (Decidable.not_not.1 h1)
   rw [h.place _ _ hin.1 hin.2,h.st hin.2]
   obtain ⟨hK,hKx,hKy⟩:=place_right h.h1.rw hin.1
   have hI:=placeI_bd c.a c.b
   generalize placeC w c.a c.b = K at *
   generalize placeI c.a c.b = I at *
   generalize w.players.any (standsB c) = S
   by_cases h2 : ¬ (takeS p.bag c.c 1).2.2 = 0
   · rw [if_pos h2,if_pos h2];exact .err _ _ _ h2
   · rw [if_neg h2,if_neg h2]
     by_cases h3 : blockB (takeS p.bag c.c 1).2.1.item = false
     · rw [if_pos h3,if_pos h3];exact .err 100 _ _ (by decide)
     · rw [if_neg h3,if_neg h3]
       by_cases h4 : ¬ cellA K I = 0 ∨ S = true
       · rw [if_pos h4,if_pos h4];exact .err 107 _ _ (by decide)
       · rw [if_neg h4,if_neg h4]
         by_cases h5 : ¬ (setC K I (takeS p.bag c.c 1).2.1.item).2 = 0
         · rw [if_pos h5,if_pos h5];exact .err _ _ _ h5
         · rw [if_neg h5,if_neg h5]
           have hxy:=setC_xy K I (takeS p.bag c.c 1).2.1.item
           exact keep_alike h rfl rfl rfl rfl (right_setC hK hI.1 hI.2) (by rw [hxy.1,hxy.2,hKx,hKy];exact place_max h.h1.rw hin.1) c.a c.b hin.2 (hxy.1.trans hKx) (hxy.2.trans hKy)
theorem take_alike {w w' : Wld} {p : Player} {c : Cmd} (h : Near w w' p c) : Alike w w' p (takeA w p) (takeA w' p):=by
 have hin:=h.h1.sound.2
 have hnn:=nearP_self p
 unfold takeA
 rw [h.place _ _ hin hnn]
 dsimp only
 obtain ⟨hK,hKx,hKy⟩:=place_right h.h1.rw hin
 have hI:=placeI_bd p.x p.y
 have hL:=lift_right hK (placeI p.x p.y)
 have hh:=lift_heaps hK (placeI p.x p.y)
 have hxy:=liftC_xy (placeC w p.x p.y) (placeI p.x p.y)
 obtain ⟨i1,i2,i3,i4,i5,i6⟩:=pick_law (placeI p.x p.y) hI (liftC (placeC w p.x p.y) (placeI p.x p.y)).2 (liftC (placeC w p.x p.y) (placeI p.x p.y)).1 p.bag false hL.1 h.h1.bag.2 hL.2 hh
 generalize pickA (placeI p.x p.y) (liftC (placeC w p.x p.y) (placeI p.x p.y)).2 ((liftC (placeC w p.x p.y) (placeI p.x p.y)).1,p.bag,false) = R at *
 by_cases h1 : (liftC (placeC w p.x p.y) (placeI p.x p.y)).2.length = 0
 · rw [if_pos h1,if_pos h1];exact .err 105 _ _ (by decide)
 · rw [if_neg h1,if_neg h1]
   by_cases h2 : R.2.2 = false
   · rw [if_pos h2,if_pos h2];exact .err 104 _ _ (by decide)
   · rw [if_neg h2,if_neg h2]
     exact keep_alike h rfl rfl rfl rfl i1 (by rw [i4,i5,hxy.1,hxy.2,hKx,hKy];exact place_max h.h1.rw hin) p.x p.y hnn (by rw [i4,hxy.1,hKx]) (by rw [i5,hxy.2,hKy])
theorem drop_alike {w w' : Wld} {p : Player} {c : Cmd} (h : Near w w' p c) : Alike w w' p (dropA w p c) (dropA w' p c):=by
 have hin:=h.h1.sound.2
 have hnn:=nearP_self p
 unfold dropA
 rw [h.place _ _ hin hnn]
 obtain ⟨hK,hKx,hKy⟩:=place_right h.h1.rw hin
 have hI:=placeI_bd p.x p.y
 by_cases h1 : ¬ (takeS p.bag c.c c.n).2.2 = 0
 · rw [if_pos h1,if_pos h1];exact .err _ _ _ h1
 · rw [if_neg h1,if_neg h1]
   by_cases h2 : ¬ (dropC (placeC w p.x p.y) (placeI p.x p.y) (takeS p.bag c.c c.n).2.1).2 = 0
   · rw [if_pos h2,if_pos h2];exact .err _ _ _ h2
   · rw [if_neg h2,if_neg h2]
     have hxy:=dropC_xy (placeC w p.x p.y) (placeI p.x p.y) (takeS p.bag c.c c.n).2.1
     exact keep_alike h rfl rfl rfl rfl (drop_right hK hI) (by rw [hxy.1,hxy.2,hKx,hKy];exact place_max h.h1.rw hin) p.x p.y hnn (hxy.1.trans hKx) (hxy.2.trans hKy)
theorem store_alike {w w' : Wld} {p : Player} {c : Cmd} (h : Near w w' p c) : Alike w w' p (storeA w p c) (storeA w' p c):=by
 unfold storeA
 rw [aim_alike h]
 by_cases h1 : ¬ aimE w p c.a c.b = 0
 · rw [if_pos h1,if_pos h1];exact .err _ _ _ h1
 · rw [if_neg h1,if_neg h1]
   have hin:=aim_in (Decidable.not_not.1 h1)
   rw [h.place _ _ hin.1 hin.2]
   obtain ⟨hK,hKx,hKy⟩:=place_right h.h1.rw hin.1
   generalize placeC w c.a c.b = K at *
   generalize placeI c.a c.b = I at *
   by_cases h2 : (boxC K I).2 = false
   · rw [if_pos h2,if_pos h2];exact .err 107 _ _ (by decide)
   · rw [if_neg h2,if_neg h2]
     dsimp only
     generalize (if c.dol = 7 then movedA p.bag (boxC K I).1 c.c c.n else movedA (boxC K I).1 p.bag c.c c.n) = M
     by_cases h3 : ¬ M.2.2 = 0
     · rw [if_pos h3,if_pos h3];exact .err _ _ _ h3
     · rw [if_neg h3,if_neg h3]
       generalize (if c.dol = 7 then M.2.1 else M.1) = B
       by_cases h4 : ¬ (fillC K I B).2 = 0
       · rw [if_pos h4,if_pos h4];exact .err _ _ _ h4
       · rw [if_neg h4,if_neg h4]
         have hxy:=fillC_xy K I B
         exact keep_alike h rfl rfl rfl rfl (fill_right hK I B) (by rw [hxy.1,hxy.2,hKx,hKy];exact place_max h.h1.rw hin.1) c.a c.b hin.2 (hxy.1.trans hKx) (hxy.2.trans hKy)
theorem no_minus {w : Wld} (hR : RW w) : (playerW w (-1)).2 = false:=by
 rw [playerW_get hR]
 cases hg : getK pid w.players (-1) with
 | none=>rfl
 | some p =>
   obtain ⟨h1,h2⟩:=getK_mem hg
   have h3:=(sound_parts (hR.players p h1).1).1
   have : p.id = -1:=h2
   omega
theorem act_alike {w w' : Wld} {p : Player} {c : Cmd} (h : Near w w' p c) (hD : rightD c = true) (h1 : ¬ c.dol = 1) (h11 : ¬ c.dol = 11) (hw : p.wth = -1) : Alike w w' p (actA w p c) (actA w' p c):=by
 unfold actA
 by_cases d : c.dol = 2
 · rw [if_pos d,if_pos d]
   have hb : (-1 ≤ c.a ∧ c.a ≤ 1) ∧ (-1 ≤ c.b ∧ c.b ≤ 1):=by
     obtain ⟨dd,a,b,e,n⟩:=c
     dsimp only at d ⊢
     subst d
     have h' : (rngB (-1) 1 a && (rngB (-1) 1 b && (zeroB e && zeroB n))) = true:=hD
     simp only [rngB,Bool.and_eq_true,decide_eq_true_eq] at h'
     exact ⟨h'.1,h'.2.1⟩
   exact move_alike h hb.1 hb.2
 rw [if_neg d,if_neg d]
 by_cases d : c.dol = 3
 · rw [if_pos d,if_pos d];exact break_alike h
 rw [if_neg d,if_neg d]
 by_cases d : c.dol = 4
 · rw [if_pos d,if_pos d];exact place_alike h
 rw [if_neg d,if_neg d]
 by_cases d : c.dol = 5
 · rw [if_pos d,if_pos d];exact take_alike h
 rw [if_neg d,if_neg d]
 by_cases d : c.dol = 6
 · rw [if_pos d,if_pos d];exact drop_alike h
 rw [if_neg d,if_neg d]
 by_cases d : c.dol = 7 ∨ c.dol = 8
 · rw [if_pos d,if_pos d];exact store_alike h
 rw [if_neg d,if_neg d]
 by_cases d : c.dol = 9
 · rw [if_pos d,if_pos d]
   unfold craftA
   by_cases h2 : ¬ (makeS p.bag c.c).2 = 0
   · rw [if_pos h2,if_pos h2];exact .err _ _ _ h2
   · rw [if_neg h2,if_neg h2];exact set_alike h rfl (by dsimp only;omega) rfl
 rw [if_neg d,if_neg d]
 by_cases d : c.dol = 10
 · rw [if_pos d,if_pos d]
   unfold eatA
   by_cases h2 : ¬ (spendS p.bag 11 1).2 = 0
   · rw [if_pos h2,if_pos h2];exact .err _ _ _ h2
   · rw [if_neg h2,if_neg h2];exact set_alike h rfl (by dsimp only;omega) rfl
 rw [if_neg d,if_neg d]
 unfold dealA
 dsimp only
 rw [if_neg h11,hw,if_pos (no_minus h.h1.rw),if_pos (no_minus h.h2.rw),if_neg h11]
 exact .err 108 _ _ (by decide)
open Go Go.RowKit Eng
inductive AlikeW (w w' : Wld) (p : Player) : Wld × Int → Wld × Int → Prop where
 | err (e : Int) (h : ¬ e = 0) : AlikeW w w' p (w,e) (w',e)
 | ok (ko : Option Chunk) (p' : Player) (hi : p'.id = p.id) (hx : p'.x - p.x ≤ 1 ∧ p.x - p'.x ≤ 1 ∧ p'.y - p.y ≤ 1 ∧ p.y - p'.y ≤ 1) (hw : p'.wth = p.wth)
     (hk : ∀ k,ko = some k → rightB k = true ∧ max k.x k.y < w.size ∧ ∃ X Y,nearP p X Y = true ∧ k.x = X / 8 ∧ k.y = Y / 8)
     (h1 : RW (updW w ko p')) (h2 : RW (updW w' ko p')) : AlikeW w w' p (updW w ko p',0) (updW w' ko p',0)
theorem here_player {w : Wld} {p : Player} (h : Here w p) : playerW w p.id = (p,true):=by rw [playerW_get h.rw,h.get]
theorem apply_go {w : Wld} {p : Player} (hp : Here w p) (c : Cmd) : applyW w p.id c = if rightD c = false then (w,109) else if c.dol = 1 then (w,110) else if ¬ (actA w p c).2 = 0 then (w,(actA w p c).2) else ((actA w p c).1,0):=by
 unfold applyW
 rw [if_neg (by rw [rightW_iff.2 hp.rw];simp),here_player hp]
 dsimp only
 by_cases hD : rightD c = false
 · rw [if_pos hD,if_pos hD]
 · rw [if_neg hD,if_neg hD]
   by_cases h1 : c.dol = 1
   · rw [if_pos (by rw [decide_eq_true h1]),if_pos h1]
   · rw [if_neg (by rw [decide_eq_false h1];simp),if_neg h1,if_neg h1]
theorem apply_alike {w w' : Wld} {p : Player} {c : Cmd} (h : Near w w' p c) (h11 : ¬ c.dol = 11) (hw : p.wth = -1) : AlikeW w w' p (applyW w p.id c) (applyW w' p.id c):=by
 rw [apply_go h.h1,apply_go h.h2]
 by_cases hD : rightD c = false
 · rw [if_pos hD,if_pos hD];exact .err 109 (by decide)
 · rw [if_neg hD,if_neg hD]
   have hD' : rightD c = true:=by simpa using hD
   by_cases h1 : c.dol = 1
   · rw [if_pos h1,if_pos h1];exact .err 110 (by decide)
   · rw [if_neg h1,if_neg h1]
     have ha:=act_alike h hD' h1 h11 hw
     generalize actA w p c = A at *
     generalize actA w' p c = A' at *
     cases ha with
     | err e r r' he=>dsimp only;rw [if_pos he,if_pos he];exact .err e he
     | ok ko p' hi hx hw hk q1 q2 =>
       dsimp only
       rw [if_neg (not_not_intro rfl),if_neg (not_not_intro rfl)]
       exact .ok ko p' hi hx hw hk q1 q2
structure Act1 (w : Wld) (p : Player) (ko : Option Chunk) (p' : Player) : Prop where
 hi : p'.id = p.id
 hx : p'.x - p.x ≤ 1 ∧ p.x - p'.x ≤ 1 ∧ p'.y - p.y ≤ 1 ∧ p.y - p'.y ≤ 1
 hk : ∀ k,ko = some k → rightB k = true ∧ max k.x k.y < w.size ∧ ∃ X Y,nearP p X Y = true ∧ k.x = X / 8 ∧ k.y = Y / 8
theorem AlikeW.inv {w w' : Wld} {p : Player} {A B : Wld × Int} (h : AlikeW w w' p A B) : A.2 = B.2 ∧ ((¬ A.2 = 0 ∧ A.1 = w ∧ B.1 = w') ∨ (A.2 = 0 ∧ ∃ ko p',A.1 = updW w ko p' ∧ B.1 = updW w' ko p' ∧ Act1 w p ko p' ∧ RW (updW w ko p'))):=by
 cases h with
 | err e h=>exact ⟨rfl,.inl ⟨h,rfl,rfl⟩⟩
 | ok ko p' hi hx hw hk q1 q2=>exact ⟨rfl,.inr ⟨rfl,ko,p',rfl,rfl,⟨hi,hx,hk⟩,q1⟩⟩
theorem near_refl {w : Wld} {p : Player} (h : Here w p) (c : Cmd) : Near w w p c:=⟨rfl,h,h,fun _ _ _ _=>rfl,fun _=>rfl⟩
def farP (p q : Player) : Prop:=24 < max (max (p.x - q.x) (q.x - p.x)) (max (p.y - q.y) (q.y - p.y))
theorem any_set {l : List Player} (hr : risesK pid l) {p p' : Player} (hg : getK pid l p'.id = some p) {f : Player → Bool} (h1 : f p = false) (h2 : f p' = false) : (setL l p').any f = l.any f:=by
 rw [Bool.eq_iff_iff,List.any_eq_true,List.any_eq_true]
 constructor
 · rintro ⟨x,hx,hf⟩
   rcases setL_mem hx with rfl|hx
   · rw [h2] at hf;cases hf
   · exact ⟨x,hx,hf⟩
 · rintro ⟨x,hx,hf⟩
   have hgx:=getK_of_mem (key:=pid) hr hx
   by_cases he : x.id = p'.id
   · have : x = p:=by
       rw [show getK pid l (pid x) = getK pid l p'.id from by rw [show pid x = x.id from rfl,he],hg] at hgx
       exact (Option.some.inj hgx).symm
     rw [this,h1] at hf;cases hf
   · have hg2:=getK_setL (p:=p') hr x.id
     rw [if_neg he,show getK pid l x.id = some x from hgx] at hg2
     exact ⟨x,(getK_mem hg2).1,hf⟩
theorem near_of {w : Wld} {p q q' : Player} {ko : Option Chunk} {c : Cmd} (hp : Here w p) (hq : Here w q) (hne : ¬ p.id = q.id) (hf : farP p q) (hi : q'.id = q.id) (hx : q'.x - q.x ≤ 1 ∧ q.x - q'.x ≤ 1 ∧ q'.y - q.y ≤ 1 ∧ q.y - q'.y ≤ 1)
   (hk : ∀ k,ko = some k → rightB k = true ∧ max k.x k.y < w.size ∧ ∃ X Y,nearP q X Y = true ∧ k.x = X / 8 ∧ k.y = Y / 8) (h1 : RW (updW w ko q')) : Near w (updW w ko q') p c:=by
 unfold farP at hf
 have hs : (updW w ko q').size = w.size ∧ (updW w ko q').seed = w.seed ∧ (updW w ko q').players = setL w.players q':=by cases ko<;>exact ⟨rfl,rfl,rfl⟩
 refine ⟨hs.1,hp,⟨h1,?_⟩,fun X Y hin hN=>?_,fun hN=>?_⟩
 · rw [hs.2.2,getK_setL hp.rw.rp,if_neg (by rw [hi];exact hne)];exact hp.get
 · have hb:=(within_iff hp.rw).1 hin
   have hsz:=hp.rw.size
   unfold placeC
   rw [(chunkW_in hp.rw (x:=X / 8) (y:=Y / 8) (by omega) (by omega)).1,(chunkW_in h1 (x:=X / 8) (y:=Y / 8) (by rw [hs.1];omega) (by rw [hs.1];omega)).1,hs.2.1]
   cases ko with
   | none=>rfl
   | some k =>
     obtain ⟨k1,k2,X',Y',k3,k4,k5⟩:=hk k rfl
     have hkp:=rightB_pos k1
     have hne2 : ¬ keyC (atC (X / 8) (Y / 8)) = keyC k:=by
       intro he
       have he' : 16 * (Y / 8) + X / 8 = 16 * k.y + k.x:=he
       unfold nearP at hN k3
       simp only [Bool.and_eq_true,decide_eq_true_eq] at hN k3
       omega
     rw [show (updW w (some k) q').chunks = putL w.seed w.chunks k from rfl,getK_putL hp.rw.rc,if_neg hne2]
 · rw [hs.2.2]
   refine any_set (p:=q) hp.rw.rp (by rw [hi];exact hq.get) ?_ ?_
   · unfold nearP at hN
     unfold standsB
     simp only [Bool.and_eq_true,decide_eq_true_eq] at hN
     rw [Bool.and_eq_false_iff,decide_eq_false_iff_not,decide_eq_false_iff_not]
     omega
   · unfold nearP at hN
     unfold standsB
     simp only [Bool.and_eq_true,decide_eq_true_eq] at hN
     rw [Bool.and_eq_false_iff,decide_eq_false_iff_not,decide_eq_false_iff_not]
     omega
theorem div_near {X X' : Int} (h : X / 8 = X' / 8) : X - X' ≤ 7 ∧ X' - X ≤ 7:=by omega
theorem nearP_bd {p : Player} {X Y : Int} (h : nearP p X Y = true) : (X - p.x ≤ 3 ∧ p.x - X ≤ 3) ∧ (Y - p.y ≤ 3 ∧ p.y - Y ≤ 3):=by
 unfold nearP at h
 simp only [Bool.and_eq_true,decide_eq_true_eq] at h
 omega
theorem farP_no {p q : Player} (h1 : p.x - q.x ≤ 24) (h2 : q.x - p.x ≤ 24) (h3 : p.y - q.y ≤ 24) (h4 : q.y - p.y ≤ 24) : ¬ farP p q:=by
 unfold farP
 generalize p.x - q.x = a at *
 generalize q.x - p.x = b at *
 generalize p.y - q.y = c at *
 generalize q.y - p.y = d at *
 omega
theorem far_key {p q : Player} {k j : Chunk} (hf : farP p q) (hk : rightB k = true) (hj : rightB j = true) {X Y X' Y' : Int} (h1 : nearP p X Y = true) (h2 : nearP q X' Y' = true) (a1 : k.x = X / 8) (a2 : k.y = Y / 8) (b1 : j.x = X' / 8) (b2 : j.y = Y' / 8) : keyC k ≠ keyC j:=by
 intro he
 have p1:=rightB_pos hk
 have p2:=rightB_pos hj
 have he' : 16 * k.y + k.x = 16 * j.y + j.x:=he
 obtain ⟨e1,e2⟩:=key_xy (a:=j.x) (b:=j.y) (x:=k.x) (y:=k.y) (by omega) (by omega) he'
 rw [a1,b1] at e1
 rw [a2,b2] at e2
 have u1:=nearP_bd h1
 have u2:=nearP_bd h2
 have u5:=div_near e1
 have u6:=div_near e2
 clear he he' p1 p2 e1 e2 h1 h2 a1 a2 b1 b2 hk hj
 exact farP_no (by omega) (by omega) (by omega) (by omega) hf
def putO (s : Int) (l : List Chunk) : Option Chunk → List Chunk
 | none=>l
 | some k=>putL s l k
theorem updW_size (w : Wld) (ko : Option Chunk) (p : Player) : (updW w ko p).size = w.size:=by cases ko<;>rfl
theorem updW_seed (w : Wld) (ko : Option Chunk) (p : Player) : (updW w ko p).seed = w.seed:=by cases ko<;>rfl
theorem updW_tick (w : Wld) (ko : Option Chunk) (p : Player) : (updW w ko p).tick = w.tick:=by cases ko<;>rfl
theorem updW_players (w : Wld) (ko : Option Chunk) (p : Player) : (updW w ko p).players = setL w.players p:=by cases ko<;>rfl
theorem updW_chunks (w : Wld) (ko : Option Chunk) (p : Player) : (updW w ko p).chunks = putO w.seed w.chunks ko:=by cases ko<;>rfl
theorem upd_comm {w : Wld} {p q p' q' : Player} {ka kb : Option Chunk} (hR : RW w) (hne : ¬ p.id = q.id) (hf : farP p q) (hi : p'.id = p.id) (hj : q'.id = q.id)
   (ha : ∀ k,ka = some k → rightB k = true ∧ max k.x k.y < w.size ∧ ∃ X Y,nearP p X Y = true ∧ k.x = X / 8 ∧ k.y = Y / 8) (hb : ∀ k,kb = some k → rightB k = true ∧ max k.x k.y < w.size ∧ ∃ X Y,nearP q X Y = true ∧ k.x = X / 8 ∧ k.y = Y / 8) :
   updW (updW w ka p') kb q' = updW (updW w kb q') ka p':=by
 have hs:=set_comm (w:=w) (p:=p') (q:=q') hR (by rw [hi,hj];exact hne)
 refine wld_ext ?_ ?_ ?_ ?_ ?_
 · rw [updW_size,updW_size,updW_size,updW_size]
 · rw [updW_seed,updW_seed,updW_seed,updW_seed]
 · rw [updW_tick,updW_tick,updW_tick,updW_tick]
 · rw [updW_chunks,updW_chunks,updW_chunks,updW_chunks,updW_seed,updW_seed]
   cases ka with
   | none=>rfl
   | some k =>
     cases kb with
     | none=>rfl
     | some j =>
       obtain ⟨k1,k2,X,Y,k3,k4,k5⟩:=ha k rfl
       obtain ⟨j1,j2,X',Y',j3,j4,j5⟩:=hb j rfl
       exact putL_comm hR (far_key hf k1 j1 k3 j3 k4 k5 j4 j5)
 · rw [updW_players,updW_players,updW_players,updW_players]
   exact hs
theorem apart_law {w : Wld} {p q : Player} {a b : Cmd} (hp : Here w p) (hq : Here w q) (hne : ¬ p.id = q.id) (hf : farP p q) (ha : ¬ a.dol = 11) (hb : ¬ b.dol = 11) (hwp : p.wth = -1) (hwq : q.wth = -1) :
   (applyW w p.id a).2 = (applyW (applyW w q.id b).1 p.id a).2 ∧ (applyW (applyW w p.id a).1 q.id b).2 = (applyW w q.id b).2 ∧ (applyW (applyW w p.id a).1 q.id b).1 = (applyW (applyW w q.id b).1 p.id a).1:=by
 have hf2 : farP q p:=by unfold farP at *;omega
 obtain ⟨_,hA⟩:=(apply_alike (near_refl hp a) ha hwp).inv
 obtain ⟨_,hB⟩:=(apply_alike (near_refl hq b) hb hwq).inv
 rcases hA with ⟨a0,a1,_⟩|⟨a0,ka,p',a1,_,a3,a4⟩
 · rcases hB with ⟨b0,b1,_⟩|⟨b0,kb,q',b1,_,b3,b4⟩
   · rw [a1,b1]
     exact ⟨rfl,rfl,a1.symm⟩
   · obtain ⟨r0,hR⟩:=(apply_alike (near_of (c:=a) hp hq hne hf b3.hi b3.hx b3.hk b4) ha hwp).inv
     rcases hR with ⟨_,_,r2⟩|⟨r1,_⟩
     · rw [a1,b1]
       exact ⟨r0,rfl,r2.symm⟩
     · exact absurd r1 a0
 · obtain ⟨r0,hR⟩:=(apply_alike (near_of (c:=b) hq hp (fun h=>hne h.symm) hf2 a3.hi a3.hx a3.hk a4) hb hwq).inv
   rcases hR with ⟨_,r1,r2⟩|⟨b0,kb,q',b1,r2,b3,b4⟩
   · rw [a1,r1]
     exact ⟨rfl,r0.symm,r2.trans a1.symm⟩
   · obtain ⟨s0,hS⟩:=(apply_alike (near_of (c:=a) hp hq hne hf b3.hi b3.hx b3.hk b4) ha hwp).inv
     rcases hS with ⟨s1,_⟩|⟨_,k2,p2,s1,s2,s3,s4⟩
     · exact absurd a0 s1
     · have e1 : updW w ka p' = updW w k2 p2:=a1.symm.trans s1
       rw [a1,b1]
       refine ⟨s0,r0.symm,r2.trans ?_⟩
       rw [s2,e1]
       exact upd_comm hp.rw hne hf s3.hi b3.hi s3.hk b3.hk
end Go.Proofs.YtkojlembanldcaaGreat
