/- Light, plain. -/
import Derived.Test.YtchdgiooggdfeaaGh
set_option linter.unusedSimpArgs false
set_option linter.unusedVariables false
set_option maxRecDepth 100000
set_option maxHeartbeats 16000000
namespace Go.Proofs.Ytchdgiooggdfeaa
open Go Go.RowKit Eng
def dirsL : List Pos:=[⟨-1,0⟩,⟨1,0⟩,⟨0,-1⟩,⟨0,1⟩]
def inF (fr to_ la : Int) (c : Pos) : Prop:=fr ≤ c.x ∧ c.x ≤ to_ ∧ 0 ≤ c.y ∧ c.y ≤ la
instance (fr to_ la : Int) (c : Pos) : Decidable (inF fr to_ la c):=inferInstanceAs (Decidable (_ ∧ _))
def cellsF (fr to_ la cx cy : Int) (l : List Int) (s : PF × Nat) : Nat → PF × Nat
 | 0=>s
 | k + 1=>if inF fr to_ la ⟨cx * 8 + (k : Int) % 8,cy * 8 + (k : Int) / 8⟩ then putM (cellsF fr to_ la cx cy l s k) (cx * 8 + (k : Int) % 8) (cy * 8 + (k : Int) / 8) (elt .u8 l k) else cellsF fr to_ la cx cy l s k
def rowF (w : Wld) (fr to_ la cy : Int) (s : PF × Nat) : Nat → PF × Nat
 | 0=>s
 | j + 1=>cellsF fr to_ la (fr / 8 + j) cy (chunkW w (fr / 8 + j) cy).1.cells (rowF w fr to_ la cy s j) 64
def laidF (w : Wld) (fr to_ la : Int) : Nat → PF × Nat
 | 0=>(noF,0)
 | j + 1=>rowF w fr to_ la j (laidF w fr to_ la j) (to_ / 8 + 1 - fr / 8).toNat
theorem cellsF_get (fr to_ la cx cy : Int) (l : List Int) (s : PF × Nat) (a b : Int) : ∀ k : Nat,k ≤ 64 → (cellsF fr to_ la cx cy l s k).1 a b = if a / 8 = cx ∧ b / 8 = cy ∧ b % 8 * 8 + a % 8 < k ∧ inF fr to_ la ⟨a,b⟩ then some (elt .u8 l (b % 8 * 8 + a % 8).toNat) else s.1 a b:=by
 intro k
 induction k with
 | zero =>
   intro _
   have h : ¬ (a / 8 = cx ∧ b / 8 = cy ∧ b % 8 * 8 + a % 8 < ((0 : Nat) : Int) ∧ inF fr to_ la ⟨a,b⟩):=by omega
   rw [if_neg h];rfl
 | succ k ih =>
   intro hk
   have ih:=ih (by omega)
   unfold cellsF
   by_cases he : inF fr to_ la ⟨cx * 8 + (k : Int) % 8,cy * 8 + (k : Int) / 8⟩
   · rw [if_pos he]
     show setF _ _ _ _ a b = _
     unfold setF
     by_cases hab : a = cx * 8 + (k : Int) % 8 ∧ b = cy * 8 + (k : Int) / 8
     · rw [if_pos hab]
       have h1 : a / 8 = cx ∧ b / 8 = cy ∧ b % 8 * 8 + a % 8 = k:=by omega
       have h2 : (b % 8 * 8 + a % 8).toNat = k:=by omega
       rw [if_pos ⟨h1.1,h1.2.1,by omega,by rw [hab.1,hab.2];exact he⟩,h2]
     · rw [if_neg hab,ih]
       have h3 : a / 8 = cx ∧ b / 8 = cy → ¬ b % 8 * 8 + a % 8 = k:=fun h h'=>hab (by omega)
       by_cases hc : a / 8 = cx ∧ b / 8 = cy ∧ b % 8 * 8 + a % 8 < k ∧ inF fr to_ la ⟨a,b⟩
       · rw [if_pos hc,if_pos ⟨hc.1,hc.2.1,by omega,hc.2.2.2⟩]
       · rw [if_neg hc,if_neg]
         rintro ⟨c1,c2,c3,c4⟩
         have:=h3 ⟨c1,c2⟩
         exact hc ⟨c1,c2,by omega,c4⟩
   · rw [if_neg he,ih]
     by_cases hc : a / 8 = cx ∧ b / 8 = cy ∧ b % 8 * 8 + a % 8 < k ∧ inF fr to_ la ⟨a,b⟩
     · rw [if_pos hc,if_pos ⟨hc.1,hc.2.1,by omega,hc.2.2.2⟩]
     · rw [if_neg hc,if_neg]
       rintro ⟨c1,c2,c3,c4⟩
       by_cases hkk : b % 8 * 8 + a % 8 = k
       · refine he ?_
         have h1 : a = cx * 8 + (k : Int) % 8:=by omega
         have h2 : b = cy * 8 + (k : Int) / 8:=by omega
         rw [← h1,← h2];exact c4
       · exact hc ⟨c1,c2,by omega,c4⟩
theorem rowF_get (w : Wld) (fr to_ la cy : Int) (s : PF × Nat) (a b : Int) : ∀ j : Nat,(rowF w fr to_ la cy s j).1 a b = if a / 8 < fr / 8 + j ∧ b / 8 = cy ∧ inF fr to_ la ⟨a,b⟩ then some (cellAt w a b) else s.1 a b:=by
 intro j
 induction j with
 | zero =>
   unfold rowF;rw [if_neg]
   rintro ⟨h1,_,h2,_⟩
   dsimp only at h2
   omega
 | succ j ih =>
   unfold rowF
   rw [cellsF_get _ _ _ _ _ _ _ _ _ 64 (Nat.le_refl _),ih]
   by_cases h : a / 8 = fr / 8 + j ∧ b / 8 = cy
   · have hc : elt .u8 (chunkW w (fr / 8 + j) cy).1.cells (b % 8 * 8 + a % 8).toNat = cellAt w a b:=by unfold cellAt;rw [h.1,h.2]
     rw [hc]
     by_cases hz : inF fr to_ la ⟨a,b⟩
     · rw [if_pos ⟨h.1,h.2,by omega,hz⟩,if_pos ⟨by omega,h.2,hz⟩]
     · rw [if_neg (fun e=>hz e.2.2.2),if_neg (fun e=>hz e.2.2),if_neg (fun e=>hz e.2.2)]
   · rw [if_neg (fun e=>h ⟨e.1,e.2.1⟩)]
     by_cases h2 : a / 8 < fr / 8 + j ∧ b / 8 = cy ∧ inF fr to_ la ⟨a,b⟩
     · rw [if_pos h2,if_pos ⟨by omega,h2.2⟩]
     · rw [if_neg h2,if_neg]
       rintro ⟨c1,c2,c3⟩
       by_cases h3 : a / 8 = fr / 8 + j
       · exact h ⟨h3,c2⟩
       · exact h2 ⟨by omega,c2,c3⟩
theorem laidF_get (w : Wld) {fr to_ la : Int} (a b : Int) : ∀ j : Nat,(laidF w fr to_ la j).1 a b = if b / 8 < j ∧ inF fr to_ la ⟨a,b⟩ then some (cellAt w a b) else none:=by
 intro j
 induction j with
 | zero =>
   unfold laidF;rw [if_neg];rfl
   rintro ⟨h1,_,_,h2,_⟩
   dsimp only at h2
   omega
 | succ j ih =>
   unfold laidF
   rw [rowF_get,ih]
   by_cases h : a / 8 < fr / 8 + ((to_ / 8 + 1 - fr / 8).toNat : Int) ∧ b / 8 = j ∧ inF fr to_ la ⟨a,b⟩
   · rw [if_pos h,if_pos ⟨by omega,h.2.2⟩]
   · rw [if_neg h]
     by_cases h2 : b / 8 < j ∧ inF fr to_ la ⟨a,b⟩
     · rw [if_pos h2,if_pos ⟨by omega,h2.2⟩]
     · rw [if_neg h2,if_neg]
       rintro ⟨c1,c2⟩
       by_cases h3 : b / 8 = j
       · refine h ⟨?_,h3,c2⟩
         have:=c2.1;have:=c2.2.1
         dsimp only at *
         omega
       · exact h2 ⟨by omega,c2⟩
def opF (I : PF) (fr to_ la : Int) (c : Pos) : Prop:=inF fr to_ la c ∧ (getZ (I c.x c.y) = 0 ∨ getZ (I c.x c.y) = 10)
instance (I : PF) (fr to_ la : Int) (c : Pos) : Decidable (opF I fr to_ la c):=inferInstanceAs (Decidable (_ ∧ _))
def pushN (I : PF) (fr to_ la : Int) (lt : PF) (nx : List Pos) (n : Pos) : List Pos:=if opF I fr to_ la n ∧ getZ (lt n.x n.y) = 0 then nx ++ [n] else nx
def litC (I : PF) (fr to_ la v : Int) (st : (PF × Nat) × List Pos) (c : Pos) : (PF × Nat) × List Pos:=
 if 0 < getZ (st.1.1 c.x c.y) then st
 else (putM st.1 c.x c.y v,dirsL.foldl (fun nx d=>pushN I fr to_ la (putM st.1 c.x c.y v).1 nx (addP c d)) st.2)
def roundF (I : PF) (fr to_ la v : Int) (cur : List Pos) (st : (PF × Nat) × List Pos) : (PF × Nat) × List Pos:=cur.foldl (litC I fr to_ la v) st
def shineF (I : PF) (fr to_ la : Int) (l15 l14 : List Pos) : Nat → (PF × Nat) × List Pos
 | 0=>((noF,0),l15)
 | k + 1=>roundF I fr to_ la (15 - (k : Int)) (shineF I fr to_ la l15 l14 k).2 ((shineF I fr to_ la l15 l14 k).1,if k = 0 then l14 else [])
open Go Go.RowKit Eng
def GG (s15 s14 op : Pos → Prop) : Nat → Pos → Prop
 | 0,c=>s15 c
 | k + 1,c=>GG s15 s14 op k c ∨ (k = 0 ∧ s14 c) ∨ (op c ∧ ∃ d ∈ dirsL,GG s15 s14 op k (addP c d))
def litK (s15 s14 op : Pos → Prop) (k : Nat) (c : Pos) : Prop:=GG s15 s14 op k c ∧ ∀ m < k,¬ GG s15 s14 op m c
theorem GG_least {s15 s14 op : Pos → Prop} {c : Pos} : ∀ {n : Nat},GG s15 s14 op n c → ∃ m,m ≤ n ∧ litK s15 s14 op m c:=by
 intro n
 induction n using Nat.strongRecOn with
 | _ n ih =>
   intro h
   by_cases hx : ∃ m,m < n ∧ GG s15 s14 op m c
   · obtain ⟨m,hm,hw⟩:=hx
     obtain ⟨k,hk,hf⟩:=ih m hm hw
     exact ⟨k,by omega,hf⟩
   · exact ⟨n,Nat.le_refl n,h,fun m hm hw=>hx ⟨m,hm,hw⟩⟩
theorem lit_one {s15 s14 op : Pos → Prop} {c : Pos} {m n : Nat} (h1 : litK s15 s14 op m c) (h2 : litK s15 s14 op n c) : m = n:=by
 rcases Nat.lt_trichotomy m n with h|h|h
 · exact absurd h1.1 (h2.2 m h)
 · exact h
 · exact absurd h2.1 (h1.2 n h)
theorem dirs_back {d : Pos} (h : d ∈ dirsL) (c : Pos) : ∃ d' ∈ dirsL,addP (addP c d) d' = c:=by
 refine ⟨⟨-d.x,-d.y⟩,?_,pos_ext (by simp [addP];omega) (by simp [addP];omega)⟩
 simp only [dirsL,List.mem_cons,List.not_mem_nil,or_false] at h ⊢
 rcases h with rfl|rfl|rfl|rfl<;>simp
def posF (F : PF) : Prop:=∀ a b v,F a b = some v → 0 < v
theorem getZ_pos {F : PF} (h : posF F) (a b : Int) : 0 < getZ (F a b) ↔ F a b ≠ none:=by
 cases hf : F a b with
 | none=>simp [getZ]
 | some v=>simp [getZ,h a b v hf]
theorem posF_put {s : PF × Nat} {x y v : Int} (h : posF s.1) (hv : 0 < v) : posF (putM s x y v).1:=by
 intro a b u hu
 change setF s.1 x y v a b = some u at hu
 unfold setF at hu
 split at hu
 · cases hu;exact hv
 · exact h a b u hu
theorem litC_pos {I : PF} {fr to_ la v : Int} (hv : 0 < v) {st : (PF × Nat) × List Pos} (h : posF st.1.1) (c : Pos) : posF (litC I fr to_ la v st c).1.1:=by
 unfold litC
 split
 · exact h
 · exact posF_put h hv
open Classical in
theorem litC_get {I : PF} {fr to_ la v : Int} {st : (PF × Nat) × List Pos} (h : posF st.1.1) (c b : Pos) : (litC I fr to_ la v st c).1.1 b.x b.y = (match st.1.1 b.x b.y with|some d=>some d|none=>if b = c then some v else none):=by
 unfold litC
 by_cases hc : 0 < getZ (st.1.1 c.x c.y)
 · rw [if_pos hc]
   cases hb : st.1.1 b.x b.y with
   | some d=>rfl
   | none =>
     simp only
     rw [if_neg]
     rintro rfl
     exact (getZ_pos h _ _).1 hc hb
 · rw [if_neg hc]
   show setF st.1.1 c.x c.y v b.x b.y = _
   unfold setF
   have hcn : st.1.1 c.x c.y = none:=Classical.byContradiction fun hn=>hc ((getZ_pos h _ _).2 hn)
   by_cases hbc : b = c
   · subst hbc
     rw [if_pos ⟨rfl,rfl⟩,hcn];simp
   · rw [if_neg (fun e=>hbc (pos_ext e.1 e.2))]
     cases hb : st.1.1 b.x b.y with
     | some d=>rfl
     | none=>simp [hbc]
open Classical in
theorem round_get {I : PF} {fr to_ la v : Int} (hv : 0 < v) (b : Pos) : ∀ {cur : List Pos} {st : (PF × Nat) × List Pos},posF st.1.1 → (roundF I fr to_ la v cur st).1.1 b.x b.y = (match st.1.1 b.x b.y with|some d=>some d|none=>if b ∈ cur then some v else none):=by
 intro cur
 induction cur with
 | nil=>intro st _;unfold roundF;simp;cases st.1.1 b.x b.y<;>rfl
 | cons c r ih =>
   intro st h
   unfold roundF at ih ⊢
   rw [List.foldl_cons,ih (litC_pos hv h c),litC_get h]
   cases hb : st.1.1 b.x b.y with
   | some d=>rfl
   | none =>
     simp only
     by_cases hbc : b = c
     · subst hbc;simp
     · simp [hbc]
theorem pushN_mem {I : PF} {fr to_ la : Int} {lt : PF} {nx : List Pos} {n b : Pos} : b ∈ pushN I fr to_ la lt nx n ↔ b ∈ nx ∨ (b = n ∧ opF I fr to_ la n ∧ getZ (lt n.x n.y) = 0):=by
 unfold pushN
 split
 · rename_i h;simp [h]
 · rename_i h;simp [h]
theorem pushes_mem {I : PF} {fr to_ la : Int} {lt : PF} {c b : Pos} : ∀ {D : List Pos} {nx : List Pos},b ∈ D.foldl (fun nx d=>pushN I fr to_ la lt nx (addP c d)) nx ↔ b ∈ nx ∨ (opF I fr to_ la b ∧ getZ (lt b.x b.y) = 0 ∧ ∃ d ∈ D,b = addP c d):=by
 intro D
 induction D with
 | nil=>intro nx;simp
 | cons d r ih =>
   intro nx
   rw [List.foldl_cons,ih,pushN_mem]
   constructor
   · rintro ((h|⟨rfl,h1,h2⟩)|⟨h1,h2,d',hd,he⟩)
     · exact .inl h
     · exact .inr ⟨h1,h2,d,List.mem_cons_self ..,rfl⟩
     · exact .inr ⟨h1,h2,d',List.mem_cons_of_mem _ hd,he⟩
   · rintro (h|⟨h1,h2,d',hd,he⟩)
     · exact .inl (.inl h)
     · rcases List.mem_cons.1 hd with rfl|hd
       · subst he;exact .inl (.inr ⟨rfl,h1,h2⟩)
       · exact .inr ⟨h1,h2,d',hd,he⟩
theorem round_sound {I : PF} {fr to_ la v : Int} {b : Pos} : ∀ {cur : List Pos} {st : (PF × Nat) × List Pos},b ∈ (roundF I fr to_ la v cur st).2 → b ∈ st.2 ∨ (opF I fr to_ la b ∧ ∃ c ∈ cur,∃ d ∈ dirsL,b = addP c d):=by
 intro cur
 induction cur with
 | nil=>intro st h;exact .inl h
 | cons c r ih =>
   intro st h
   unfold roundF at ih h
   rw [List.foldl_cons] at h
   rcases ih h with h|⟨h1,c',hc,hd⟩
   · unfold litC at h
     split at h
     · exact .inl h
     · rcases pushes_mem.1 h with h|⟨h1,_,h2⟩
       · exact .inl h
       · exact .inr ⟨h1,c,List.mem_cons_self ..,h2⟩
   · exact .inr ⟨h1,c',List.mem_cons_of_mem _ hc,hd⟩
theorem round_keep {I : PF} {fr to_ la v : Int} {b : Pos} : ∀ {cur : List Pos} {st : (PF × Nat) × List Pos},b ∈ st.2 → b ∈ (roundF I fr to_ la v cur st).2:=by
 intro cur
 induction cur with
 | nil=>intro st h;exact h
 | cons c r ih =>
   intro st h
   unfold roundF at ih ⊢
   rw [List.foldl_cons]
   refine ih ?_
   unfold litC
   split
   · exact h
   · exact pushes_mem.2 (.inl h)
open Classical in
theorem round_full {I : PF} {fr to_ la v : Int} (hv : 0 < v) {c d : Pos} (hd : d ∈ dirsL) (ho : opF I fr to_ la (addP c d)) : ∀ {cur : List Pos} {st : (PF × Nat) × List Pos},posF st.1.1 → c ∈ cur → st.1.1 c.x c.y = none → st.1.1 (addP c d).x (addP c d).y = none → addP c d ∉ cur → addP c d ∈ (roundF I fr to_ la v cur st).2:=by
 intro cur
 induction cur with
 | nil=>intro st _ h;cases h
 | cons a r ih =>
   intro st hp hc hn hn2 hnot
   have hna : ¬ addP c d = a:=fun e=>hnot (e ▸ List.mem_cons_self ..)
   by_cases hca : c = a
   · subst hca
     unfold roundF
     rw [List.foldl_cons]
     refine round_keep (v:=v) ?_
     have hz : getZ (st.1.1 c.x c.y) = 0:=by rw [hn];rfl
     unfold litC
     rw [if_neg (by omega)]
     refine pushes_mem.2 (.inr ⟨ho,?_,d,hd,rfl⟩)
     show getZ (setF st.1.1 c.x c.y v (addP c d).x (addP c d).y) = 0
     unfold setF
     rw [if_neg (fun e=>hna (pos_ext e.1 e.2)),hn2];rfl
   · have ih:=ih (st:=litC I fr to_ la v st a) (litC_pos hv hp a) (by rcases List.mem_cons.1 hc with h|h;exact absurd h hca;exact h)
       (by rw [litC_get hp,hn];simp [hca]) (by rw [litC_get hp,hn2];simp [hna]) (fun h=>hnot (List.mem_cons_of_mem _ h))
     unfold roundF at ih ⊢
     rw [List.foldl_cons];exact ih
structure InvF (s15 s14 op : Pos → Prop) (k : Nat) (lt : PF) (cur : List Pos) : Prop where
 off : ∀ c : Pos,∀ v,lt c.x c.y = some v ↔ ∃ m : Nat,m < k ∧ v = 15 - (m : Int) ∧ litK s15 s14 op m c
 snd : ∀ c ∈ cur,GG s15 s14 op k c
 cmp : ∀ c,litK s15 s14 op k c → c ∈ cur
theorem InvF.pos {s15 s14 op : Pos → Prop} {k : Nat} {lt : PF} {cur : List Pos} (h : InvF s15 s14 op k lt cur) (hk : k ≤ 15) : posF lt:=by
 intro a b v hv
 obtain ⟨m,hm,rfl,_⟩:=(h.off ⟨a,b⟩ v).1 hv
 omega
open Classical in
theorem inv_round {I : PF} {fr to_ la : Int} {s15 s14 : Pos → Prop} {k : Nat} (hk : k ≤ 14) {lt : PF × Nat} {cur l14 : List Pos} (h : InvF s15 s14 (opF I fr to_ la) k lt.1 cur) (hl : ∀ c,c ∈ l14 ↔ k = 0 ∧ s14 c) :
   InvF s15 s14 (opF I fr to_ la) (k + 1) (roundF I fr to_ la (15 - (k : Int)) cur (lt,l14)).1.1 (roundF I fr to_ la (15 - (k : Int)) cur (lt,l14)).2:=by
 have hp:=h.pos (by omega)
 have hv : 0 < 15 - (k : Int):=by omega
 have hnone : ∀ c : Pos,lt.1 c.x c.y = none ↔ ∀ m,m < k → ¬ litK s15 s14 (opF I fr to_ la) m c:=fun c=>by
   constructor
   · intro hn m hm hf
     have:=(h.off c _).2 ⟨m,hm,rfl,hf⟩
     rw [hn] at this;cases this
   · intro hn
     cases hb : lt.1 c.x c.y with
     | none=>rfl
     | some v=>obtain ⟨m,hm,_,hf⟩:=(h.off c v).1 hb;exact absurd hf (hn m hm)
 have hnew : ∀ c,c ∈ cur → lt.1 c.x c.y = none → litK s15 s14 (opF I fr to_ la) k c:=fun c hc hn=>by
   obtain ⟨m,hm,hf⟩:=GG_least (h.snd c hc)
   rcases Nat.lt_or_ge m k with h1|h1
   · exact absurd hf ((hnone c).1 hn m h1)
   · have : m = k:=by omega
     subst this;exact hf
 refine ⟨fun c v=>?_,fun c hc=>?_,fun c hf=>?_⟩
 · rw [round_get hv c (st:=(lt,l14)) hp]
   show (match lt.1 c.x c.y with|some d=>some d|none=>if c ∈ cur then some (15 - (k : Int)) else none) = some v ↔ _
   cases hb : lt.1 c.x c.y with
   | some d =>
     simp only
     obtain ⟨m,hm,hd,hf⟩:=(h.off c d).1 hb
     constructor
     · intro e;cases e;exact ⟨m,by omega,hd,hf⟩
     · rintro ⟨m2,_,hd2,hf2⟩;rw [hd2,lit_one hf2 hf,hd]
   | none =>
     simp only
     constructor
     · intro e
       split at e
       · rename_i hc;cases e;exact ⟨k,by omega,rfl,hnew c hc hb⟩
       · cases e
     · rintro ⟨m,hm,hd,hf⟩
       have : m = k:=by
         rcases Nat.lt_or_ge m k with h1|h1
         · exact absurd hf ((hnone c).1 hb m h1)
         · omega
       subst this
       rw [if_pos (h.cmp c hf),hd]
 · rcases round_sound hc with h1|⟨h1,c',hc',d,hd,rfl⟩
   · exact .inr (.inl ((hl c).1 h1))
   · obtain ⟨d',hd',he⟩:=dirs_back hd c'
     exact .inr (.inr ⟨h1,d',hd',by rw [he];exact h.snd c' hc'⟩)
 · rcases hf.1 with h1|h1|⟨h1,d,hd,hg⟩
   · exact absurd h1 (hf.2 k (by omega))
   · exact round_keep ((hl c).2 h1)
   · have hlit : litK s15 s14 (opF I fr to_ la) k (addP c d):=⟨hg,fun m hm hg2=>hf.2 (m + 1) (by omega) (.inr (.inr ⟨h1,d,hd,hg2⟩))⟩
     obtain ⟨d',hd',he⟩:=dirs_back hd c
     have hcn : lt.1 c.x c.y = none:=(hnone c).2 fun m hm hf2=>hf.2 m (by omega) hf2.1
     have:=round_full (I:=I) (fr:=fr) (to_:=to_) (la:=la) hv (c:=addP c d) (d:=d') hd' (by rw [he];exact h1) (cur:=cur) (st:=(lt,l14)) hp (h.cmp _ hlit)
       ((hnone _).2 fun m hm hf2=>hlit.2 m hm hf2.1) (by rw [he];exact hcn) (by rw [he];exact fun hc=>hf.2 k (by omega) (h.snd c hc))
     rw [he] at this;exact this
theorem inv_shine {I : PF} {fr to_ la : Int} {s15 s14 : Pos → Prop} {l15 l14 : List Pos} (h15 : ∀ c,c ∈ l15 ↔ s15 c) (h14 : ∀ c,c ∈ l14 ↔ s14 c) : ∀ k,k ≤ 15 → InvF s15 s14 (opF I fr to_ la) k (shineF I fr to_ la l15 l14 k).1.1 (shineF I fr to_ la l15 l14 k).2:=by
 intro k
 induction k with
 | zero =>
   intro _
   refine ⟨fun c v=>⟨fun h=>(by cases h),fun ⟨m,hm,_⟩=>by omega⟩,fun c hc=>(h15 c).1 hc,fun c hc=>(h15 c).2 hc.1⟩
 | succ k ih =>
   intro hk
   refine inv_round (by omega) (ih (by omega)) fun c=>?_
   by_cases h0 : k = 0
   · rw [if_pos h0,h14];exact ⟨fun h=>⟨h0,h⟩,fun h=>h.2⟩
   · rw [if_neg h0];exact ⟨fun h=>(by cases h),fun h=>absurd h.1 h0⟩
theorem shine_spec {I : PF} {fr to_ la : Int} {s15 s14 : Pos → Prop} {l15 l14 : List Pos} (h15 : ∀ c,c ∈ l15 ↔ s15 c) (h14 : ∀ c,c ∈ l14 ↔ s14 c) (c : Pos) :
   (∃ k : Nat,k ≤ 14 ∧ litK s15 s14 (opF I fr to_ la) k c ∧ getZ ((shineF I fr to_ la l15 l14 15).1.1 c.x c.y) = 15 - (k : Int)) ∨ ((∀ k,k ≤ 14 → ¬ litK s15 s14 (opF I fr to_ la) k c) ∧ getZ ((shineF I fr to_ la l15 l14 15).1.1 c.x c.y) = 0):=by
 have h:=inv_shine (I:=I) (fr:=fr) (to_:=to_) (la:=la) h15 h14 15 (Nat.le_refl _)
 cases hb : (shineF I fr to_ la l15 l14 15).1.1 c.x c.y with
 | some v =>
   obtain ⟨m,hm,rfl,hf⟩:=(h.off c v).1 hb
   exact .inl ⟨m,by omega,hf,rfl⟩
 | none =>
   refine .inr ⟨fun k hk hf=>?_,rfl⟩
   have:=(h.off c _).2 ⟨k,by omega,rfl,hf⟩
   rw [hb] at this;cases this
open Go Go.RowKit Eng
def colF (I : PF) (x : Int) (st : List Pos × List Pos) : Nat → Bool × (List Pos × List Pos)
 | 0=>(true,st)
 | y + 1 =>
   if (colF I x st y).1 = true ∧ getZ (I x (y : Nat)) = 0 then (true,((colF I x st y).2.1 ++ [⟨x,(y : Nat)⟩],(colF I x st y).2.2))
   else if getZ (I x (y : Nat)) = 10 then (false,((colF I x st y).2.1,(colF I x st y).2.2 ++ [⟨x,(y : Nat)⟩]))
   else (false,(colF I x st y).2)
def srcF (I : PF) (fr la : Int) : Nat → List Pos × List Pos
 | 0=>([],[])
 | j + 1=>(colF I (fr + (j : Nat)) (srcF I fr la j) (la + 1).toNat).2
theorem colF_sky (I : PF) (x : Int) (st : List Pos × List Pos) : ∀ y,(colF I x st y).1 = true ↔ ∀ k : Nat,k < y → getZ (I x (k : Nat)) = 0:=by
 intro y
 induction y with
 | zero=>exact ⟨fun _ k hk=>by omega,fun _=>rfl⟩
 | succ y ih =>
   unfold colF
   by_cases h : (colF I x st y).1 = true ∧ getZ (I x (y : Nat)) = 0
   · rw [if_pos h]
     refine ⟨fun _ k hk=>?_,fun _=>rfl⟩
     by_cases hky : k = y
     · rw [hky];exact h.2
     · exact ih.1 h.1 k (by omega)
   · rw [if_neg h]
     have hno : ¬ ∀ k : Nat,k < y + 1 → getZ (I x (k : Nat)) = 0:=fun h2=>h ⟨ih.2 fun k hk=>h2 k (by omega),h2 y (by omega)⟩
     split
     · exact ⟨fun e=>(by cases e),fun h2=>absurd h2 hno⟩
     · exact ⟨fun e=>(by cases e),fun h2=>absurd h2 hno⟩
theorem colF_15 (I : PF) (x : Int) (st : List Pos × List Pos) (c : Pos) : ∀ y,c ∈ (colF I x st y).2.1 ↔ c ∈ st.1 ∨ (c.x = x ∧ 0 ≤ c.y ∧ c.y < y ∧ ∀ k : Nat,(k : Int) ≤ c.y → getZ (I x (k : Nat)) = 0):=by
 intro y
 induction y with
 | zero =>
   refine ⟨fun h=>.inl h,fun h=>?_⟩
   rcases h with h|⟨_,h1,h2,_⟩
   · exact h
   · omega
 | succ y ih =>
   unfold colF
   by_cases h : (colF I x st y).1 = true ∧ getZ (I x (y : Nat)) = 0
   · rw [if_pos h]
     show c ∈ (colF I x st y).2.1 ++ [⟨x,(y : Nat)⟩] ↔ _
     rw [List.mem_append,ih,List.mem_singleton]
     constructor
     · rintro ((h1|⟨h1,h2,h3,h4⟩)|rfl)
       · exact .inl h1
       · exact .inr ⟨h1,h2,by omega,h4⟩
       · refine .inr ⟨rfl,by show (0 : Int) ≤ (y : Nat);omega,by show ((y : Nat) : Int) < _;omega,fun k hk=>?_⟩
         have hk2 : (k : Int) ≤ (y : Nat):=hk
         by_cases hky : k = y
         · rw [hky];exact h.2
         · exact (colF_sky I x st y).1 h.1 k (by omega)
     · rintro (h1|⟨h1,h2,h3,h4⟩)
       · exact .inl (.inl h1)
       · by_cases hcy : c.y = y
         · exact .inr (pos_ext h1 hcy)
         · exact .inl (.inr ⟨h1,h2,by omega,h4⟩)
   · rw [if_neg h]
     have hno : ∀ z : Int,c.y = (y : Nat) → ¬ ∀ k : Nat,(k : Int) ≤ c.y → getZ (I x (k : Nat)) = 0:=fun _ hz h2=>h ⟨(colF_sky I x st y).2 fun k hk=>h2 k (by omega),h2 y (by omega)⟩
     have hgo : c ∈ (colF I x st y).2.1 ↔ c ∈ st.1 ∨ (c.x = x ∧ 0 ≤ c.y ∧ c.y < ((y + 1 : Nat) : Int) ∧ ∀ k : Nat,(k : Int) ≤ c.y → getZ (I x (k : Nat)) = 0):=by
       rw [ih]
       constructor
       · rintro (h1|⟨h1,h2,h3,h4⟩)
         · exact .inl h1
         · exact .inr ⟨h1,h2,by omega,h4⟩
       · rintro (h1|⟨h1,h2,h3,h4⟩)
         · exact .inl h1
         · by_cases hcy : c.y = y
           · exact absurd h4 (hno 0 hcy)
           · exact .inr ⟨h1,h2,by omega,h4⟩
     split<;>exact hgo
theorem colF_14 (I : PF) (x : Int) (st : List Pos × List Pos) (c : Pos) : ∀ y,c ∈ (colF I x st y).2.2 ↔ c ∈ st.2 ∨ (c.x = x ∧ 0 ≤ c.y ∧ c.y < y ∧ getZ (I x c.y) = 10):=by
 intro y
 induction y with
 | zero =>
   refine ⟨fun h=>.inl h,fun h=>?_⟩
   rcases h with h|⟨_,h1,h2,_⟩
   · exact h
   · omega
 | succ y ih =>
   unfold colF
   have hgo : getZ (I x (y : Nat)) ≠ 10 → (c ∈ (colF I x st y).2.2 ↔ c ∈ st.2 ∨ (c.x = x ∧ 0 ≤ c.y ∧ c.y < ((y + 1 : Nat) : Int) ∧ getZ (I x c.y) = 10)):=fun hne=>by
     rw [ih]
     constructor
     · rintro (h1|⟨h1,h2,h3,h4⟩)
       · exact .inl h1
       · exact .inr ⟨h1,h2,by omega,h4⟩
     · rintro (h1|⟨h1,h2,h3,h4⟩)
       · exact .inl h1
       · by_cases hcy : c.y = y
         · rw [hcy] at h4;exact absurd h4 hne
         · exact .inr ⟨h1,h2,by omega,h4⟩
   by_cases h : (colF I x st y).1 = true ∧ getZ (I x (y : Nat)) = 0
   · rw [if_pos h];exact hgo (by omega)
   · rw [if_neg h]
     by_cases h10 : getZ (I x (y : Nat)) = 10
     · rw [if_pos h10]
       show c ∈ (colF I x st y).2.2 ++ [⟨x,(y : Nat)⟩] ↔ _
       rw [List.mem_append,ih,List.mem_singleton]
       constructor
       · rintro ((h1|⟨h1,h2,h3,h4⟩)|rfl)
         · exact .inl h1
         · exact .inr ⟨h1,h2,by omega,h4⟩
         · exact .inr ⟨rfl,by show (0 : Int) ≤ (y : Nat);omega,by show ((y : Nat) : Int) < _;omega,h10⟩
       · rintro (h1|⟨h1,h2,h3,h4⟩)
         · exact .inl (.inl h1)
         · by_cases hcy : c.y = y
           · exact .inr (pos_ext h1 hcy)
           · exact .inl (.inr ⟨h1,h2,by omega,h4⟩)
     · rw [if_neg h10];exact hgo h10
theorem srcF_15 (I : PF) (fr la : Int) (hla : 0 ≤ la) (c : Pos) : ∀ j : Nat,c ∈ (srcF I fr la j).1 ↔ fr ≤ c.x ∧ c.x < fr + j ∧ 0 ≤ c.y ∧ c.y ≤ la ∧ ∀ k : Nat,(k : Int) ≤ c.y → getZ (I c.x (k : Nat)) = 0:=by
 intro j
 induction j with
 | zero=>exact ⟨fun h=>(by cases h),fun h=>by omega⟩
 | succ j ih =>
   unfold srcF
   rw [colF_15,ih]
   constructor
   · rintro (⟨h1,h2,h3⟩|⟨h1,h2,h3,h4⟩)
     · exact ⟨h1,by omega,h3⟩
     · exact ⟨by omega,by omega,h2,by omega,by rw [h1];exact h4⟩
   · rintro ⟨h1,h2,h3,h4,h5⟩
     by_cases hx : c.x = fr + (j : Nat)
     · exact .inr ⟨hx,h3,by omega,by rw [← hx];exact h5⟩
     · exact .inl ⟨h1,by omega,h3,h4,h5⟩
theorem srcF_14 (I : PF) (fr la : Int) (hla : 0 ≤ la) (c : Pos) : ∀ j : Nat,c ∈ (srcF I fr la j).2 ↔ fr ≤ c.x ∧ c.x < fr + j ∧ 0 ≤ c.y ∧ c.y ≤ la ∧ getZ (I c.x c.y) = 10:=by
 intro j
 induction j with
 | zero=>exact ⟨fun h=>(by cases h),fun h=>by omega⟩
 | succ j ih =>
   unfold srcF
   rw [colF_14,ih]
   constructor
   · rintro (⟨h1,h2,h3⟩|⟨h1,h2,h3,h4⟩)
     · exact ⟨h1,by omega,h3⟩
     · exact ⟨by omega,by omega,h2,by omega,by rw [h1];exact h4⟩
   · rintro ⟨h1,h2,h3,h4,h5⟩
     by_cases hx : c.x = fr + (j : Nat)
     · exact .inr ⟨hx,h3,by omega,by rw [← hx];exact h5⟩
     · exact .inl ⟨h1,by omega,h3,h4,h5⟩
def cellsOfF (w : Wld) (fr to_ la : Int) : PF × Nat:=laidF w fr to_ la (la / 8 + 1).toNat
def lightF (w : Wld) (fr to_ la : Int) : PF × Nat:=
 (shineF (cellsOfF w fr to_ la).1 fr to_ la (srcF (cellsOfF w fr to_ la).1 fr la (to_ + 1 - fr).toNat).1 (srcF (cellsOfF w fr to_ la).1 fr la (to_ + 1 - fr).toNat).2 15).1
def aboutF (w : Wld) (x0 x1 y1 : Int) : PF × Nat:=lightF w (max (x0 - 15) 0) (min (x1 + 15) (8 * w.size - 1)) (min (y1 + 15) (8 * w.size - 1))
def inW (w : Wld) (c : Pos) : Prop:=0 ≤ c.x ∧ 0 ≤ c.y ∧ c.x < 8 * w.size ∧ c.y < 8 * w.size
def openW (w : Wld) (c : Pos) : Prop:=inW w c ∧ (cellAt w c.x c.y = 0 ∨ cellAt w c.x c.y = 10)
def skyW (w : Wld) (c : Pos) : Prop:=inW w c ∧ ∀ k : Nat,(k : Int) ≤ c.y → cellAt w c.x (k : Nat) = 0
def torchW (w : Wld) (c : Pos) : Prop:=inW w c ∧ cellAt w c.x c.y = 10
abbrev litW (w : Wld) (k : Nat) (c : Pos) : Prop:=litK (skyW w) (torchW w) (openW w) k c
def Bright (w : Wld) (c : Pos) (v : Int) : Prop:=(∃ k : Nat,k ≤ 14 ∧ litW w k c ∧ v = 15 - (k : Int)) ∨ ((∀ k,k ≤ 14 → ¬ litW w k c) ∧ v = 0)
theorem bright_one {w : Wld} {c : Pos} {u v : Int} (h1 : Bright w c u) (h2 : Bright w c v) : u = v:=by
 rcases h1 with ⟨k,hk,hl,rfl⟩|⟨hn,rfl⟩
 · rcases h2 with ⟨j,hj,hl2,rfl⟩|⟨hn2,rfl⟩
   · rw [lit_one hl hl2]
   · exact absurd hl (hn2 k hk)
 · rcases h2 with ⟨j,hj,hl2,rfl⟩|⟨hn2,rfl⟩
   · exact absurd hl2 (hn j hj)
   · rfl
structure FieldOf (w : Wld) (fr to_ la : Int) : Prop where
 fr : 0 ≤ fr
 to_ : to_ < 8 * w.size
 la : 0 ≤ la ∧ la < 8 * w.size
theorem cells_in {w : Wld} {fr to_ la : Int} (hf : FieldOf w fr to_ la) {a b : Int} (h : inF fr to_ la ⟨a,b⟩) : getZ ((cellsOfF w fr to_ la).1 a b) = cellAt w a b:=by
 unfold cellsOfF
 have h1:=hf.la
 have h2 : 0 ≤ b:=h.2.2.1
 have h3 : b ≤ la:=h.2.2.2
 rw [laidF_get,if_pos ⟨by omega,h⟩];rfl
abbrev GF (w : Wld) (fr to_ la : Int) (k : Nat) (c : Pos) : Prop:=
 GG (fun c=>c ∈ (srcF (cellsOfF w fr to_ la).1 fr la (to_ + 1 - fr).toNat).1) (fun c=>c ∈ (srcF (cellsOfF w fr to_ la).1 fr la (to_ + 1 - fr).toNat).2) (opF (cellsOfF w fr to_ la).1 fr to_ la) k c
theorem field_world {w : Wld} {fr to_ la : Int} (hf : FieldOf w fr to_ la) : ∀ {k : Nat} {c : Pos},inF fr to_ la c → (fr ≤ c.x - k ∨ fr = 0) → (c.x + k ≤ to_ ∨ to_ = 8 * w.size - 1) → (c.y + k ≤ la ∨ la = 8 * w.size - 1) →
   (GF w fr to_ la k c ↔ GG (skyW w) (torchW w) (openW w) k c):=by
 have hla:=hf.la
 have h15 : ∀ c : Pos,inF fr to_ la c → (c ∈ (srcF (cellsOfF w fr to_ la).1 fr la (to_ + 1 - fr).toNat).1 ↔ skyW w c):=by
   intro c hc
   rw [srcF_15 _ _ _ hla.1]
   have hfr:=hf.fr
   have hto:=hf.to_
   unfold skyW inW
   have hc':=hc
   unfold inF at hc'
   have hk : ∀ k : Nat,(k : Int) ≤ c.y → getZ ((cellsOfF w fr to_ la).1 c.x (k : Nat)) = cellAt w c.x (k : Nat):=fun k hk=>cells_in hf (a:=c.x) (b:=(k : Nat)) ⟨hc'.1,hc'.2.1,by show (0 : Int) ≤ (k : Nat);omega,by show ((k : Nat) : Int) ≤ la;omega⟩
   constructor
   · rintro ⟨_,_,_,_,h⟩;exact ⟨⟨by omega,by omega,by omega,by omega⟩,fun k h2=>by rw [← hk k h2];exact h k h2⟩
   · rintro ⟨_,h⟩;exact ⟨by omega,by omega,by omega,by omega,fun k h2=>by rw [hk k h2];exact h k h2⟩
 have h14 : ∀ c : Pos,inF fr to_ la c → (c ∈ (srcF (cellsOfF w fr to_ la).1 fr la (to_ + 1 - fr).toNat).2 ↔ torchW w c):=by
   intro c hc
   rw [srcF_14 _ _ _ hla.1,cells_in hf (a:=c.x) (b:=c.y) hc]
   have hfr:=hf.fr
   have hto:=hf.to_
   unfold torchW inW
   unfold inF at hc
   constructor
   · rintro ⟨_,_,_,_,h⟩;exact ⟨⟨by omega,by omega,by omega,by omega⟩,h⟩
   · rintro ⟨_,h⟩;exact ⟨by omega,by omega,by omega,by omega,h⟩
 have hop : ∀ c : Pos,inF fr to_ la c → (opF (cellsOfF w fr to_ la).1 fr to_ la c ↔ openW w c):=by
   intro c hc
   unfold opF openW
   rw [cells_in hf (a:=c.x) (b:=c.y) hc]
   have hfr:=hf.fr
   have hto:=hf.to_
   unfold inW
   have hc2:=hc
   unfold inF at hc2
   exact ⟨fun h=>⟨⟨by omega,by omega,by omega,by omega⟩,h.2⟩,fun h=>⟨hc,h.2⟩⟩
 have hnot : ∀ (k : Nat) (c : Pos),GF w fr to_ la k c → inF fr to_ la c:=by
   intro k
   induction k with
   | zero =>
     intro c h
     have h:=(srcF_15 _ _ _ hla.1 c _).1 h
     unfold inF;omega
   | succ k ih =>
     intro c h
     rcases h with h|⟨_,h⟩|⟨h,_⟩
     · exact ih c h
     · have h:=(srcF_14 _ _ _ hla.1 c _).1 h
       unfold inF;omega
     · exact h.1
 have hnotW : ∀ (k : Nat) (c : Pos),GG (skyW w) (torchW w) (openW w) k c → inW w c:=by
   intro k
   induction k with
   | zero=>intro c h;exact h.1
   | succ k ih =>
     intro c h
     rcases h with h|⟨_,h⟩|⟨h,_⟩
     · exact ih c h
     · exact h.1
     · exact h.1
 intro k
 induction k with
 | zero=>intro c hc _ _ _;exact h15 c hc
 | succ k ih =>
   intro c hc hx1 hx2 hy
   have i0:=ih hc (by omega) (by omega) (by omega)
   have hc2:=hc
   unfold inF at hc2
   have key : ∀ d ∈ dirsL,(GF w fr to_ la k (addP c d) ↔ GG (skyW w) (torchW w) (openW w) k (addP c d)):=by
     intro d hd
     have hd2 : -1 ≤ d.x ∧ d.x ≤ 1 ∧ -1 ≤ d.y ∧ d.y ≤ 1:=by
       simp only [dirsL,List.mem_cons,List.not_mem_nil,or_false] at hd
       rcases hd with rfl|rfl|rfl|rfl<;>decide
     have ex : (addP c d).x = c.x + d.x:=rfl
     have ey : (addP c d).y = c.y + d.y:=rfl
     by_cases hin : inF fr to_ la (addP c d)
     · exact ih hin (by omega) (by omega) (by omega)
     · refine ⟨fun h=>absurd (hnot k _ h) hin,fun h=>?_⟩
       have hw:=hnotW k _ h
       unfold inW at hw
       exact absurd (by unfold inF;omega) hin
   constructor
   · rintro (h|⟨h0,h⟩|⟨h,d,hd,hg⟩)
     · exact .inl (i0.1 h)
     · exact .inr (.inl ⟨h0,(h14 c hc).1 h⟩)
     · exact .inr (.inr ⟨(hop c hc).1 h,d,hd,(key d hd).1 hg⟩)
   · rintro (h|⟨h0,h⟩|⟨h,d,hd,hg⟩)
     · exact .inl (i0.2 h)
     · exact .inr (.inl ⟨h0,(h14 c hc).2 h⟩)
     · exact .inr (.inr ⟨(hop c hc).2 h,d,hd,(key d hd).2 hg⟩)
theorem field_bright {w : Wld} {fr to_ la : Int} (hf : FieldOf w fr to_ la) {c : Pos} (hc : inF fr to_ la c) (hx1 : fr ≤ c.x - 15 ∨ fr = 0) (hx2 : c.x + 15 ≤ to_ ∨ to_ = 8 * w.size - 1) (hy : c.y + 15 ≤ la ∨ la = 8 * w.size - 1) :
   Bright w c (getZ ((lightF w fr to_ la).1 c.x c.y)):=by
 have hg : ∀ k : Nat,k ≤ 14 → (litK (fun c=>c ∈ (srcF (cellsOfF w fr to_ la).1 fr la (to_ + 1 - fr).toNat).1) (fun c=>c ∈ (srcF (cellsOfF w fr to_ la).1 fr la (to_ + 1 - fr).toNat).2) (opF (cellsOfF w fr to_ la).1 fr to_ la) k c ↔ litW w k c):=by
   intro k hk
   have h1 : ∀ j : Nat,j ≤ 14 → (GF w fr to_ la j c ↔ GG (skyW w) (torchW w) (openW w) j c):=fun j hj=>field_world hf hc (by omega) (by omega) (by omega)
   constructor
   · rintro ⟨a,b⟩;exact ⟨(h1 k hk).1 a,fun m hm hg=>b m hm ((h1 m (by omega)).2 hg)⟩
   · rintro ⟨a,b⟩;exact ⟨(h1 k hk).2 a,fun m hm hg=>b m hm ((h1 m (by omega)).1 hg)⟩
 unfold lightF
 generalize hI : (cellsOfF w fr to_ la).1 = I at *
 rcases shine_spec (I:=I) (fr:=fr) (to_:=to_) (la:=la) (s15:=fun c=>c ∈ (srcF I fr la (to_ + 1 - fr).toNat).1) (s14:=fun c=>c ∈ (srcF I fr la (to_ + 1 - fr).toNat).2) (fun _=>Iff.rfl) (fun _=>Iff.rfl) c with ⟨k,hk,hl,he⟩|⟨hn,he⟩
 · rw [he];exact .inl ⟨k,hk,(hg k hk).1 hl,rfl⟩
 · rw [he];exact .inr ⟨fun k hk hl=>hn k hk ((hg k hk).2 hl),rfl⟩
theorem about_bright {w : Wld} (hs : 1 ≤ w.size) {x0 x1 y1 : Int} {c : Pos} (hc : inW w c) (h0 : x0 ≤ c.x) (h1 : c.x ≤ x1) (h2 : c.y ≤ y1) : Bright w c (getZ ((aboutF w x0 x1 y1).1 c.x c.y)):=by
 unfold inW at hc
 unfold aboutF
 refine field_bright ⟨by omega,by omega,by omega,by omega⟩ (by unfold inF;omega) (by omega) (by omega) (by omega)
theorem lit_open {w : Wld} {c : Pos} : ∀ {k : Nat},GG (skyW w) (torchW w) (openW w) k c → openW w c:=by
 intro k
 induction k with
 | zero =>
   intro h
   have h1:=h.1
   unfold inW at h1
   refine ⟨h.1,.inl ?_⟩
   have:=h.2 c.y.toNat (by omega)
   rw [Int.toNat_of_nonneg h1.2.1] at this
   exact this
 | succ k ih =>
   intro h
   rcases h with h|⟨_,h⟩|⟨h,_⟩
   · exact ih h
   · exact ⟨h.1,.inr h.2⟩
   · exact h
theorem bright_bd {w : Wld} {c : Pos} {v : Int} (h : Bright w c v) : 0 ≤ v ∧ v ≤ 15:=by
 rcases h with ⟨k,hk,_,rfl⟩|⟨_,rfl⟩<;>omega
theorem bright_block {w : Wld} {c : Pos} {v : Int} (h : Bright w c v) (hn : ¬ openW w c) : v = 0:=by
 rcases h with ⟨k,hk,hl,rfl⟩|⟨_,rfl⟩
 · exact absurd (lit_open hl.1) hn
 · rfl
theorem bright_ge {w : Wld} {c : Pos} {v : Int} (h : Bright w c v) {k : Nat} (hg : GG (skyW w) (torchW w) (openW w) k c) : 15 - (k : Int) ≤ v:=by
 obtain ⟨m,hm,hl⟩:=GG_least hg
 rcases h with ⟨j,hj,hl2,rfl⟩|⟨hn,rfl⟩
 · have:=lit_one hl hl2;omega
 · have : ¬ m ≤ 14:=fun h=>hn m h hl
   omega
noncomputable def selfB (w : Wld) (c : Pos) : Int:=@ite _ (skyW w c) (Classical.propDecidable _) 15 (if cellAt w c.x c.y = 10 then 14 else 0)
theorem bright_best {w : Wld} {c : Pos} {v : Int} (h : Bright w c v) (ho : openW w c) : selfB w c ≤ v ∧ (∀ d ∈ dirsL,∀ u,Bright w (addP c d) u → u - 1 ≤ v) ∧ (v = selfB w c ∨ ∃ d ∈ dirsL,openW w (addP c d) ∧ ∀ u,Bright w (addP c d) u → v = u - 1):=by
 have hb:=bright_bd h
 have hself : selfB w c ≤ v:=by
   unfold selfB
   by_cases hs : skyW w c
   · rw [if_pos hs]
     have:=bright_ge h (k:=0) hs
     omega
   · rw [if_neg hs]
     split
     · rename_i h10
       have:=bright_ge h (k:=1) (.inr (.inl ⟨rfl,ho.1,h10⟩))
       omega
     · omega
 have hnb : ∀ d ∈ dirsL,∀ u,Bright w (addP c d) u → u - 1 ≤ v:=by
   intro d hd u hu
   rcases hu with ⟨k,hk,hl,rfl⟩|⟨_,rfl⟩
   · have:=bright_ge h (k:=k + 1) (.inr (.inr ⟨ho,d,hd,hl.1⟩))
     omega
   · omega
 refine ⟨hself,hnb,?_⟩
 rcases h with ⟨k,hk,hl,rfl⟩|⟨_,rfl⟩
 · cases k with
   | zero =>
     refine .inl ?_
     unfold selfB
     rw [if_pos (show skyW w c from hl.1)];rfl
   | succ k =>
     rcases hl.1 with h1|⟨h0,h1⟩|⟨h1,d,hd,hg⟩
     · exact absurd h1 (hl.2 k (by omega))
     · refine .inl ?_
       unfold selfB
       have hns : ¬ skyW w c:=fun hs=>hl.2 0 (by omega) hs
       rw [if_neg hns,if_pos h1.2,h0];rfl
     · refine .inr ⟨d,hd,lit_open hg,fun u hu=>?_⟩
       have h2:=bright_ge hu hg
       have h3:=hnb d hd u hu
       omega
 · refine .inl ?_
   unfold selfB at hself ⊢
   split
   · rename_i hs;rw [if_pos hs] at hself;omega
   · rename_i hs
     rw [if_neg hs] at hself
     split
     · rename_i h10;rw [if_pos h10] at hself;omega
     · rfl
end Go.Proofs.Ytchdgiooggdfeaa
