/- homesteadlaw13.WorldPuts: plain laws. -/
import Derived.Test.YtaecchphjploaaaGreatGg
set_option linter.unusedSimpArgs false
set_option linter.unusedVariables false
set_option maxRecDepth 100000
set_option maxHeartbeats 16000000
namespace Go.Proofs.YtaecchphjploaaaGreat
open Go Go.RowKit Eng
theorem put_num (w : Wld) (c : Chunk) : 0 ≤ (putW w c).2 ∧ (putW w c).2 ≤ 113:=by
 rcases put_err w c with ⟨_,_,_,h⟩|⟨_,⟨h,_⟩|⟨h,_⟩⟩<;>omega
theorem set_num (w : Wld) (p : Player) : 0 ≤ (setW w p).2 ∧ (setW w p).2 ≤ 113:=by
 rcases set_err w p with ⟨_,h⟩|⟨_,⟨h,_⟩|⟨h,_⟩|⟨h,_⟩⟩<;>omega
theorem put_ok {w : Wld} {c : Chunk} (h : (putW w c).2 = 0) : RW w ∧ rightB c = true ∧ max c.x c.y < w.size:=by
 rcases put_err w c with ⟨h1,h2,h3,_⟩|⟨_,⟨h1,_⟩|⟨h1,_⟩⟩
 · exact ⟨h1,h2,h3⟩
 all_goals omega
theorem set_ok {w : Wld} {p : Player} (h : (setW w p).2 = 0) : setOk w p:=by
 rcases set_err w p with ⟨h1,_⟩|⟨_,⟨h1,_⟩|⟨h1,_⟩|⟨h1,_⟩⟩
 · exact h1
 all_goals omega
theorem key_ne {c d : Chunk} (hc : rightB c = true) (hd : rightB d = true) (h : ¬ c.x = d.x ∨ ¬ c.y = d.y) : keyC c ≠ keyC d:=by
 have h1:=rightB_pos hc
 have h2:=rightB_pos hd
 unfold keyC;omega
theorem puts_same {w : Wld} {c d : Chunk} (h1 : (putW w c).2 = 0) (h2 : (putW w d).2 = 0) (hne : ¬ c.x = d.x ∨ ¬ c.y = d.y) : (putW (putW w c).1 d).1 = (putW (putW w d).1 c).1:=by
 obtain ⟨hR,hB,hM⟩:=put_ok h1
 obtain ⟨_,hB2,hM2⟩:=put_ok h2
 rw [put_eq hR hB hM,put_eq hR hB2 hM2,put_eq (rw_put hR hB hM) hB2 hM2,put_eq (rw_put hR hB2 hM2) hB hM]
 show withCs (withCs w _) _ = withCs (withCs w _) _
 unfold withCs
 exact congrArg (fun l=>(⟨w.size,w.seed,w.tick,l,w.players⟩ : Wld)) (putL_comm hR (key_ne hB hB2 hne))
theorem puts_again {w : Wld} {c : Chunk} (h : (putW w c).2 = 0) : putW (putW w c).1 c = ((putW w c).1,0):=by
 obtain ⟨hR,hB,hM⟩:=put_ok h
 rw [put_eq hR hB hM,put_eq (rw_put hR hB hM) hB hM]
 show (withCs (withCs w _) _,(0 : Int)) = (withCs w _,0)
 unfold withCs
 exact congrArg (fun l=>((⟨w.size,w.seed,w.tick,l,w.players⟩ : Wld),(0 : Int))) (put_again hR.rc)
theorem sets_same {w : Wld} {p q : Player} (h1 : (setW w p).2 = 0) (h2 : (setW w q).2 = 0) (h3 : (setW (setW w p).1 q).2 = 0) (h4 : (setW (setW w q).1 p).2 = 0) (hne : ¬ p.id = q.id) : (setW (setW w p).1 q).1 = (setW (setW w q).1 p).1:=by
 have o1:=set_ok h1
 have o2:=set_ok h2
 have o3:=set_ok h3
 have o4:=set_ok h4
 rw [set_eq o3,set_eq o4,set_eq o1,set_eq o2]
 show withP (withP w _) _ = withP (withP w _) _
 unfold withP
 exact congrArg (fun l=>(⟨w.size,w.seed,w.tick,w.chunks,l⟩ : Wld)) (set_comm o1.1 hne)
theorem sets_again {w : Wld} {p : Player} (h : (setW w p).2 = 0) : setW (setW w p).1 p = ((setW w p).1,0):=by
 have o:=set_ok h
 have o2 : setOk (setW w p).1 p:=by
   rw [set_eq o]
   exact ⟨rw_set o,o.2.1,o.2.2.1,.inl (by show (getK pid (setL w.players p) p.id).isSome = true;rw [getK_setL o.1.rp,if_pos rfl];rfl)⟩
 rw [set_eq o2,set_eq o]
 show (withP (withP w _) _,(0 : Int)) = (withP w _,0)
 unfold withP
 exact congrArg (fun l=>((⟨w.size,w.seed,w.tick,w.chunks,l⟩ : Wld),(0 : Int))) (set_again o.1.rp)
theorem codeB {α : Type} {a b : α} {P Q : Prop} (h : P → Q → a = b) : ∃ B : Int,eqv a b = decide (B = 0) ∧ (P → Q → B = 0):=by
 by_cases he : a = b
 · exact ⟨0,by rw [he,eqv_self];rfl,fun _ _=>rfl⟩
 · exact ⟨1,by rw [eqv_false.2 he];rfl,fun p q=>absurd (h p q) he⟩
end Go.Proofs.YtaecchphjploaaaGreat
