/- path.Path. -/
import Derived.Test.YtchdgiooggdfeaaGg
import Derived.Test.YtchdgiooggdfeaaGc
set_option linter.unusedSimpArgs false
set_option linter.unusedVariables false
set_option maxRecDepth 100000
set_option maxHeartbeats 16000000
namespace Go.Proofs.Ytchdgiooggdfeaa
open Go Go.RowKit Eng
def zeroP : Player:=⟨0,0,0,[],0,[],false⟩
def playerW (w : Wld) (id : Int) : Player × Bool:=
 if rightW w = false then (zeroP,false) else match getK pid w.players id with
   | some p=>(p,true)
   | none=>(zeroP,false)
open Go Go.RowKit Eng
abbrev PF:=Int → Int → Option Int
def putM (s : PF × Nat) (x y v : Int) : PF × Nat:=(setF s.1 x y v,cntF s.1 x y s.2)
def cellAt (w : Wld) (a b : Int) : Int:=elt .u8 (chunkW w (a / 8) (b / 8)).1.cells (b % 8 * 8 + a % 8).toNat
def stepsL : List Pos:=[⟨-1,-1⟩,⟨0,-1⟩,⟨1,-1⟩,⟨-1,0⟩,⟨1,0⟩,⟨-1,1⟩,⟨0,1⟩,⟨1,1⟩]
def addP (b s : Pos) : Pos:=⟨b.x + s.x,b.y + s.y⟩
def airP (A : PF) (b : Pos) : Prop:=getZ (A b.x b.y) = 1
def okP (A : PF) (bg b : Pos) : Prop:=getZ (A b.x b.y) = 1 ∨ (b.x = bg.x ∧ b.y = bg.y)
instance (A : PF) (bg b : Pos) : Decidable (okP A bg b):=inferInstanceAs (Decidable (_ ∨ _))
open Go Go.RowKit Eng
def WW (air : Pos → Prop) (e : Pos) : Nat → Pos → Prop
 | 0,b=>b = e
 | n + 1,b=>∃ s ∈ stepsL,air (addP b s) ∧ WW air e n (addP b s)
def fst (air : Pos → Prop) (e : Pos) (n : Nat) (b : Pos) : Prop:=WW air e n b ∧ ∀ m < n,¬ WW air e m b
theorem pos_ext {a b : Pos} (h1 : a.x = b.x) (h2 : a.y = b.y) : a = b:=by cases a;cases b;simp_all
open Classical in
structure Inv (A : PF) (e bg : Pos) (n : Nat) (off : PF) (ring : List Pos) : Prop where
 off : ∀ b d,off b.x b.y = some d ↔ ∃ m : Nat,d = m ∧ m ≤ n ∧ fst (airP A) e m b ∧ okP A bg b
 ring : ∀ b,b ∈ ring ↔ airP A b ∧ fst (airP A) e n b
open Go Go.RowKit Eng
open Go Go.RowKit Eng
theorem nodup_len {n : Nat} : ∀ {l : List Nat},l.Nodup → (∀ a ∈ l,a < n) → l.length ≤ n:=by
 induction n with
 | zero =>
   intro l _ h
   cases l with
   | nil=>simp
   | cons a r=>have:=h a (List.mem_cons_self ..);omega
 | succ n ih =>
   intro l hn h
   by_cases hm : n ∈ l
   · obtain ⟨l1,l2,rfl⟩:=List.append_of_mem hm
     obtain ⟨a1,a2,a3⟩:=List.nodup_append.1 hn
     obtain ⟨b1,b2⟩:=List.nodup_cons.1 a2
     have h2:=ih (l:=l1 ++ l2) (List.nodup_append.2 ⟨a1,b2,fun a ha b hb=>a3 a ha b (List.mem_cons_of_mem _ hb)⟩) fun a ha=>by
       rcases List.mem_append.1 ha with ha|ha
       · have h3:=h a (List.mem_append_left _ ha)
         have h4:=a3 a ha n (List.mem_cons_self ..)
         omega
       · have h3:=h a (List.mem_append_right _ (List.mem_cons_of_mem _ ha))
         have h4 : a ≠ n:=fun e=>b1 (e ▸ ha)
         omega
     rw [List.length_append] at h2 ⊢
     rw [List.length_cons];omega
   · have:=ih hn fun a ha=>by
       have h3:=h a ha
       have h4 : a ≠ n:=fun e=>hm (e ▸ ha)
       omega
     omega
def inBox (b : Pos) : Prop:=0 ≤ b.x ∧ b.x < 128 ∧ 0 ≤ b.y ∧ b.y < 128
def codeP (b : Pos) : Nat:=(b.y * 128 + b.x).toNat
theorem code_nodup : ∀ {l : List Pos},l.Nodup → (∀ b ∈ l,inBox b) → (l.map codeP).Nodup
 | [],_,_=>List.nodup_nil
 | b :: r,hn,h=>by
   obtain ⟨h1,h2⟩:=List.nodup_cons.1 hn
   rw [List.map_cons]
   refine List.nodup_cons.2 ⟨fun hm=>?_,code_nodup h2 fun c hc=>h c (List.mem_cons_of_mem _ hc)⟩
   obtain ⟨c,hc,he⟩:=List.mem_map.1 hm
   have a1:=h b (List.mem_cons_self ..)
   have a2:=h c (List.mem_cons_of_mem _ hc)
   unfold inBox at a1 a2
   unfold codeP at he
   have : c = b:=pos_ext (by omega) (by omega)
   exact h1 (this ▸ hc)
theorem box_len {l : List Pos} (hn : l.Nodup) (h : ∀ b ∈ l,inBox b) : l.length ≤ 16384:=by
 have:=nodup_len (code_nodup hn h) (n:=16384) fun a ha=>by
   obtain ⟨b,hb,rfl⟩:=List.mem_map.1 ha
   have:=h b hb
   unfold inBox at this
   unfold codeP;omega
 rwa [List.length_map] at this
open Go Go.RowKit Eng
def airW (w : Wld) (b : Pos) : Prop:=0 ≤ b.x ∧ 0 ≤ b.y ∧ b.x < 8 * w.size ∧ b.y < 8 * w.size ∧ cellAt w b.x b.y = 0
end Go.Proofs.Ytchdgiooggdfeaa
