/- Contracts of items, chunks, trade, players; plain laws of chunks and bags. -/
import Derived.Test.YtkojlembanldcaaGreatGd
import Derived.Test.YtkojlembanldcaaGreatGc
import Derived.Test.YtkojlembanldcaaGreatGe
import Derived.Test.YtkojlembanldcaaGreatGg
set_option linter.unusedSimpArgs false
set_option linter.unusedVariables false
set_option maxRecDepth 100000
set_option maxHeartbeats 16000000
namespace Go.Proofs.YtkojlembanldcaaGreat
open Go Go.RowKit Eng
def bL (i : Int) : Int:=if i = 4 then 11 else if cG i = true then i else 0
theorem wi (s : ByteArray) (n : Int) (g : Int) : Api Tryz.prog 168 [.agg [.lit (.string s),.lit (.int .i64 n),.tt,.lit (.int .u8 g)]] (.lit (.int .u8 g)):=by
 refine aF Tryz.func168 4 ?_
 exact fD0
theorem mV (s : ByteArray) (n : Int) (g : Int) : Api Tryz.prog 168 [.agg [.lit (.string s),.lit (.int .i64 n),.ff,.lit (.int .u8 g)]] (.lit (.int .u8 g)):=by
 refine aF Tryz.func168 4 ?_
 exact fD0
theorem FF (i : Int) (h : 13 ≤ i) (h2 : i ≤ 255) : Api Tryz.prog 167 [.lit (.int .u8 i),.lit (.func (.func 168) #[] #[])] (.lit (.int .u8 0)):=by
 refine aF Tryz.func167 29 ?_
 conv=>whnf
 repeat' (first|exact trivial|((first|refine kL ?_|(refine ⟨fun hb=>?_,fun hb=>?_⟩<;>(try simp only [nrm] at hb)<;>try exact kZ hb)|(refine isE 168 ?_;refine kA (mV _ _ _) ?_)|(refine isD 168 ?_;refine kD (mV _ _ _) ?_)|refine kV ?_)<;>(conv=>whnf))|refine kY ?_ ?_)
theorem FG (i : Int) (h : 0 ≤ i) (h2 : i < 13) : Api Tryz.prog 167 [.lit (.int .u8 i),.lit (.func (.func 168) #[] #[])] (.lit (.int .u8 (bL i))):=by
 rcases C_ h h2 with rfl|rfl|rfl|rfl|rfl|rfl|rfl|rfl|rfl|rfl|rfl|rfl|rfl
 all_goals
  refine aF Tryz.func167 29 ?_
  conv=>whnf
  repeat' (first|exact trivial|((first|refine kL ?_|(refine ⟨fun hb=>?_,fun hb=>?_⟩<;>(try simp only [nrm] at hb)<;>try exact kZ hb)|(refine ⟨⟨by decide,by decide⟩,?_⟩)|(refine isE 168 ?_;refine kA (mV _ _ _) ?_)|(refine isD 168 ?_;refine kD (mV _ _ _) ?_)|(refine isE 168 ?_;refine kA (wi _ _ _) ?_)|(refine isD 168 ?_;refine kD (wi _ _ _) ?_)|refine kV ?_)<;>(conv=>whnf))|refine kY ?_ ?_)
theorem FH {i : Int} (h : 13 ≤ i) : bL i = 0:=by
 unfold bL
 rw [if_neg (by omega),vK h,if_neg (by simp)]
theorem wj (i : Int) (h : 0 ≤ i) (h2 : i ≤ 255) : 0 ≤ bL i ∧ bL i ≤ 255:=by
 unfold bL;split
 ·omega
 ·split<;>omega
theorem wk (i : Int) (h : 0 ≤ i) (h2 : i ≤ 255) : Api Tryz.prog 85 [.lit (.int .u8 i)] (.lit (.int .u8 (bL i))):=by
 by_cases h3 : i < 13
 ·skip
  refine aF Tryz.func85 4 ?_
  conv=>whnf
  repeat' (first|exact trivial|((first|refine kL ?_|(refine ⟨fun hb=>?_,fun hb=>?_⟩<;>(try simp only [nrm] at hb)<;>try exact kZ hb)|(refine isE 167 ?_;refine kA (FG i h h3) ?_)|(refine isD 167 ?_;refine kD (FG i h h3) ?_)|refine kV ?_)<;>(conv=>whnf))|refine kY ?_ ?_)
 ·rw [FH (by omega)]
  refine aF Tryz.func85 4 ?_
  conv=>whnf
  repeat' (first|exact trivial|((first|refine kL ?_|(refine ⟨fun hb=>?_,fun hb=>?_⟩<;>(try simp only [nrm] at hb)<;>try exact kZ hb)|(refine isE 167 ?_;refine kA (FF i (by omega) h2) ?_)|(refine isD 167 ?_;refine kD (FF i (by omega) h2) ?_)|refine kV ?_)<;>(conv=>whnf))|refine kY ?_ ?_)
def cL (size id : Int) : Int:=if size < 1 ∨ 16 < size ∨ id < 0 then 0 else (id % (8 * size) * 7 + 3) % (8 * size)
theorem FI (size id : Int) (h : id ≤ 9223372036854775807) : Api Tryz.prog 36 [i64 size,i64 id] (.tup [i64 (cL size id),i64 0]):=by
 by_cases hs : size < 1 ∨ 16 < size ∨ id < 0
 ·rw [show cL size id = 0 by unfold cL;rw [if_pos hs]]
  refine aF Tryz.func36 24 ?_
  exact fB0
 ·rw [show cL size id = (id % (8 * size) * 7 + 3) % (8 * size) by unfold cL;rw [if_neg hs]]
  have hm:=Int.emod_nonneg id (show (8 * size) ≠ 0 by omega)
  have hm2:=Int.emod_lt_of_pos id (show 0 < 8 * size by omega)
  refine aF Tryz.func36 24 ?_
  exact fB0
open Go Go.RowKit Eng
theorem DC (l : List (El .box)) (i j : Nat) (hij : i ≤ j) (hj : j ≤ l.length) (hl : l.length * 32 ≤ 140737488355328) (c : Nat) (hc : l.length ≤ c) : Ev1 Tryz.prog 194 [.own .box 1 0 l.length (some c),i64 i,i64 j] [(1,.row .box l)] (.own .box 1 0 (i + (l.length - j)) none) [(1,.row .box (l.take i ++ l.drop j))]:=by
 refine eF Tryz.func194 30 ?_
 have e1 : ((i : Int) - 0).toNat = i:=by omega
 have e2 : ((l.length : Int) - (j : Int)).toNat = l.length - j:=by omega
 have e3 : List.take (l.length - j) (l.drop j) = l.drop j:=List.take_of_length_le (by simp)
 conv=>whnf
 repeat' (first|exact trivial|((first|(refine ⟨fun hb=>?_,fun hb=>?_⟩<;>(try simp only [nrm] at hb)<;>try exact kZ hb)|refine kV ?_)<;>(conv=>whnf))|refine kY ?_ ?_)
 ·obtain rfl : i = j:=by omega
  rw [List.take_length,List.take_append_drop]
 all_goals simp only [e1,e2,Int.toNat_natCast,Int.toNat_zero,Nat.add_zero,Nat.zero_add,e3,List.length_drop]
 ·exact j9 _ _ _ (by simp;omega)
 ·rw [mR _ _ _ (by simp;omega),← List.append_assoc]
  exact List.take_left' (by simp;omega)
theorem FJ (l : List (El .box)) (i j : Nat) (hij : i ≤ j) (hj : j ≤ l.length) (hl : l.length * 32 ≤ 140737488355328) : Ev1 Tryz.prog 194 [.own .box 1 0 l.length none,i64 i,i64 j] [(1,.row .box l)] (.own .box 1 0 (i + (l.length - j)) none) [(1,.row .box (l.take i ++ l.drop j))]:=
 Ev1.cap fun c hc=>DC l i j hij hj hl c hc
theorem HK (l : List (El .box)) (i : Nat) (b : El .box) (hi : i < l.length) : (cN (l.take (i + 1) ++ l.drop i) i [b]).take (l.length + 1) = l.take i ++ b :: l.drop i:=by
 unfold cN
 have h1 : (l.take (i + 1) ++ l.drop i).take i = l.take i:=by
  rw [List.take_append_of_le_length (by simp;omega),List.take_take,Nat.min_eq_left (by omega)]
 have h2 : (l.take (i + 1) ++ l.drop i).drop (i + ([b] : List (El .box)).length) = l.drop i:=List.drop_left' (by simp;omega)
 rw [h1,h2]
 exact List.take_of_length_le (by simp;omega)
theorem HL (l : List (El .box)) (i : Nat) (hi : i < l.length) : i ≤ (l.take (i + 1) ++ l.drop i).length:=by simp;omega
theorem HM (l : List (El .box)) (i : Nat) (b : El .box) (hi : i < l.length) : l.length + 1 ≤ (cN (l.take (i + 1) ++ l.drop i) i [b]).length:=by simp [cN];omega
set_option maxHeartbeats 2000000 in
theorem DD (l : List (El .box)) (i : Nat) (b : El .box) (hi : i ≤ l.length) (hl : (l.length + 1) * 32 ≤ 140737488355328) (c : Nat) (hc : l.length ≤ c) : Ev1 Tryz.prog 195 [.own .box 1 0 l.length (some c),i64 i,.own .box 3 0 1 (some 1)] [(1,.row .box l),(3,.row .box [b])] (.own .box 390001 0 (l.length + 1) none) [(390001,.row .box (l.take i ++ b :: l.drop i))]:=by
 refine eF Tryz.func195 92 ?_
 conv=>whnf
 have e1 : ((i : Int) - 0).toNat = i:=by omega
 have e2 : ((l.length : Int) - (i : Int)).toNat = l.length - i:=by omega
 have e4 : ((l.length : Int) + 1 - (i : Int)).toNat = l.length + 1 - i:=by omega
 have e3 : List.take (l.length - i) (l.drop i) = l.drop i:=List.take_of_length_le (by simp)
 have e5 : ((i : Int) + 1).toNat = i + 1:=by omega
 have e6 : i + (l.length + 1 - i) = l.length + 1:=by omega
 have e7 : (((l.length + 1 : Nat) : Int) - (i : Int)).toNat = l.length + 1 - i:=by omega
 have e8 : (((l.length + 1 : Nat) : Int) - ((i : Int) + 1)).toNat = l.length - i:=by omega
 have e9 : ((l.length : Int) + 1 - ((i : Int) + 1)).toNat = l.length - i:=by omega
 have ea : ((l.length : Int) + 1).toNat = l.length + 1:=by omega
 have eb : min 1 (l.length + 1 - i) = 1:=by omega
 have ec : ((l.length : Int) + 1 - 0).toNat = l.length + 1:=by omega
 by_cases hcap : c < l.length + 1
 ·repeat' (first|exact trivial|((first|(refine ⟨fun hb=>?_,fun hb=>?_⟩<;>(try simp only [nrm] at hb)<;>try exact kZ hb)|refine kV ?_)<;>(conv=>whnf))|refine kY ?_ ?_)
  ·obtain rfl : i = l.length:=by omega
   simp only [List.take_length,List.drop_length]
   exact List.take_of_length_le (by simp)
  all_goals simp only [e1,e2,e3,e4,Int.natCast_one,e5,e6,e7,e8,e9,ea,eb,ec,Int.toNat_natCast,Int.toNat_zero,Nat.add_zero,Nat.zero_add,List.drop_zero,List.take_succ_cons,List.take_zero,List.length_cons,List.length_nil,Nat.min_self,List.length_drop]
  ·simp [cN];omega
  ·simp [cN];omega
  ·generalize hR : List.replicate (l.length + 1 - i) (dO Ty.box) = R
   have hRl : R.length = l.length + 1 - i:=by rw [← hR,List.length_replicate]
   have h1 : l.length + 1 = (i + 1) + (l.drop i).length:=by simp;omega
   rw [h1,iV _ _ _ (by simp [cN];omega)]
   have h2:=iV (l.take i ++ R) [b] i (by simp;omega)
   rw [List.length_singleton] at h2
   rw [h2,List.take_left' (by simp;omega)]
   simp
 ·have ed : min (l.length + 1 - i) (l.length - i) = l.length - i:=by omega
  have hX : cN l (i + 1) (l.drop i) = l.take (i + 1) ++ l.drop i:=by
   unfold cN
   rw [show l.drop (i + 1 + (l.drop i).length) = [] from List.drop_eq_nil_of_le (by simp;omega),List.append_nil]
  repeat' (first|exact trivial|((first|(refine ⟨fun hb=>?_,fun hb=>?_⟩<;>(try simp only [nrm] at hb)<;>try exact kZ hb)|refine kV ?_)<;>(conv=>whnf))|refine kY ?_ ?_)
  ·obtain rfl : i = l.length:=by omega
   simp only [List.take_length,List.drop_length]
   rw [← List.append_assoc,Nat.zero_add,List.take_length]
   have hlb : l.length + 1 = (l ++ [b]).length:=by rw [List.length_append];rfl
   exact List.take_left' hlb.symm
  all_goals simp only [e1,e2,e3,e4,Int.natCast_one,e5,e6,e7,e8,e9,ea,eb,ec,ed,Int.toNat_natCast,Int.toNat_zero,Nat.add_zero,Nat.zero_add,List.drop_zero,List.take_succ_cons,List.take_zero,List.length_cons,List.length_nil,Nat.min_self,List.length_drop,hX]
  ·exact HL l i (by omega)
  ·exact HM l i b (by omega)
  ·exact HK l i b (by omega)
theorem FK (l : List (El .box)) (i : Nat) (b : El .box) (hi : i ≤ l.length) (hl : (l.length + 1) * 32 ≤ 140737488355328) : Ev1 Tryz.prog 195 [.own .box 1 0 l.length none,i64 i,.own .box 3 0 1 (some 1)] [(1,.row .box l),(3,.row .box [b])] (.own .box 390001 0 (l.length + 1) none) [(390001,.row .box (l.take i ++ b :: l.drop i))]:=
 Ev1.cap fun c hc=>DD l i b hi hl c hc
theorem lp (l : List (El .box)) (n : Nat) (i : Nat) (b : El .box) (hn : n = l.length) (hi : i ≤ l.length) (hl : (l.length + 1) * 32 ≤ 140737488355328) : Ev1 Tryz.prog 195 [.own .box 1 0 n none,i64 i,.own .box 3 0 1 (some 1)] [(1,.row .box l),(3,.row .box [b])] (.own .box 390001 0 (n + 1) none) [(390001,.row .box (l.take i ++ b :: l.drop i))]:=by
 subst hn;exact FK l i b hi hl
theorem lq (l : List (El .box)) (n : Nat) (i j : Nat) (hn : n = l.length) (hij : i ≤ j) (hj : j ≤ l.length) (hl : l.length * 32 ≤ 140737488355328) : Ev1 Tryz.prog 194 [.own .box 1 0 n none,i64 i,i64 j] [(1,.row .box l)] (.own .box 1 0 (i + (n - j)) none) [(1,.row .box (l.take i ++ l.drop j))]:=by
 subst hn;exact FJ l i j hij hj hl
open Go Go.RowKit Eng
theorem gB : ∀ (l : List Int) (k : Nat) (bs : List Box),bT l k bs = some [] → rises bs ∧ (∀ b ∈ bs,(k : Int) ≤ b.cell ∧ b.cell < k + l.length)
 | [],k,bs,h=>by simp [bT] at h;subst h;exact ⟨trivial,by simp⟩
 | i :: r,k,bs,h=>by
  simp only [bT] at h
  split at h
  ·split at h
   ·cases bs with
    | nil=>cases h
    | cons b bs =>
     simp only at h
     split at h
     ·rename_i hb
      obtain ⟨h1,h2⟩:=gB r (k + 1) bs h
      have hbk : b.cell = k:=by simp only [gn,Bool.and_eq_true,beq_iff_eq] at hb;exact hb.1
      refine ⟨⟨fun x hx=>by have:=(h2 x hx).1;omega,h1⟩,fun x hx=>?_⟩
      rcases List.mem_cons.1 hx with rfl|hx
      ·simp only [List.length_cons];omega
      ·have:=h2 x hx;simp only [List.length_cons];omega
     ·cases h
   ·obtain ⟨h1,h2⟩:=gB r (k + 1) bs h
    exact ⟨h1,fun x hx=>by have:=h2 x hx;simp only [List.length_cons];omega⟩
  ·cases h
structure pY (c : Chunk) : Prop where
 head : dP c = true
 go : bT c.cells 0 c.boxes = some []
 heaps : c.heaps.any cw = false
theorem dK {c : Chunk} (h : ai c = true) : pY c:=by
 unfold ai at h
 simp only [Bool.and_eq_true] at h
 obtain ⟨h1,h2⟩:=h
 split at h2
 ·rename_i hg;exact ⟨h1,hg,by simpa using h2⟩
 ·cases h2
theorem pY.len {c : Chunk} (h : pY c) : c.cells.length = 64:=by
 have:=h.head;simp only [dP,Bool.and_eq_true,decide_eq_true_eq] at this;omega
theorem pY.rises {c : Chunk} (h : pY c) : rises c.boxes:=(gB _ _ _ h.go).1
theorem ky {l : List Box} {t : Int} (h : b_ l t = true) : lb t l < l.length ∧ (elt .box l (lb t l)).cell = t:=by
 simp only [b_,Bool.and_eq_true,decide_eq_true_eq,beq_iff_eq] at h;exact h
def eE (s : aa) : Bool:=decide (0 < s.n)
def lN (_ : aa) : Prop:=True
def eo : List aa:=List.replicate 6 ⟨0,0⟩
def ij (l : List aa) : Bool:=l.any eE
def oO (l : List Box) (t : Int) : List Box:=if b_ l t then l.take (lb t l) ++ l.drop (lb t l + 1) else l
def fj (l : List Box) (t : Int) (i : Int) : List Box:=if i = 9 then (oO l t).take (lb t l) ++ (⟨t,eo⟩ : Box) :: (oO l t).drop (lb t l) else oO l t
def cC (c : Chunk) (cell i : Int) : Chunk × Int:=
 if ai c = false then (c,101) else if ¬ (0 ≤ cell ∧ cell < 64) then (c,102) else if ¬ (i = 0) ∧ cG i = false then (c,100)
 else if b_ c.boxes cell = true ∧ ij (elt .box c.boxes (lb cell c.boxes)).bag = true then (c,104)
 else ({ c with cells:=c.cells.set cell.toNat i,boxes:=fj c.boxes cell i },0)
theorem zx (s : aa) (h : lN s) : Api Tryz.prog 193 [.agg [.lit (.int .u8 s.item),.lit (.int .i64 s.n)]] (bol (eE s)):=by
 refine aF Tryz.func193 5 ?_
 exact fD0
theorem zy (l : List (El .slot)) (hl : l.length ≤ big) (hw : ∀ s ∈ l,lN s) : Api Tryz.prog 250 [.vec .slot l,.lit (.func (.func 193) #[] #[])] (i64 (b8 eE l 0)):=by
 unfold big at hl
 refine aF Tryz.func250 17 ?_
 conv=>whnf
 refine ap.loopS ah (σ:=Nat) [0,1,7,8] (fun k=>[.vec .slot l,.lit (.func (.func 193) #[] #[]),i64 l.length,i64 k]) (fun _=>[]) (fun k=>k ≤ l.length ∧ b8 eE (l.drop k) k = b8 eE l 0) (fun k=>l.length - k) 0 ⟨by omega,rfl⟩ ?_ ?_
 ·exact fD0
 ·intro k ⟨hk,he⟩
  by_cases hlt : k < l.length
  ·rw [aY hlt] at he
   simp only [b8] at he
   conv=>whnf
   repeat' (first|exact trivial|((first|refine kL ?_|(refine ⟨fun hb=>?_,fun hb=>?_⟩<;>(try simp only [nrm] at hb)<;>try exact kZ hb)|(refine isE 193 ?_;refine kA (zx _ (hw _ (fG (by omega) (by omega)))) ?_)|(refine isD 193 ?_;refine kD (zx _ (hw _ (fG (by omega) (by omega)))) ?_)|refine kV ?_)<;>(conv=>whnf))|refine kY ?_ ?_)
   ·simp only [eE,Bool.and_eq_true,Bool.or_eq_true,Bool.not_eq_true',Bool.and_eq_false_iff,Bool.or_eq_false_iff,decide_eq_true_eq,decide_eq_false_iff_not] at hb he
    rw [← he,if_pos hb]
   ·simp only [eE,Bool.and_eq_true,Bool.or_eq_true,Bool.not_eq_true',Bool.and_eq_false_iff,Bool.or_eq_false_iff,decide_eq_true_eq,decide_eq_false_iff_not] at hb
    refine .to (k + 1) ⟨hlt,?_⟩ (by omega) ?_
    ·rw [← he,if_neg (by simp only [eE,Bool.and_eq_true,Bool.or_eq_true,Bool.not_eq_true',Bool.and_eq_false_iff,Bool.or_eq_false_iff,decide_eq_true_eq,decide_eq_false_iff_not];first|omega|(simp [hb];done)|(simp_all;done))]
    ·exact fD0
  ·conv=>whnf
   repeat' (first|exact trivial|((first|(refine ⟨fun hb=>?_,fun hb=>?_⟩<;>(try simp only [nrm] at hb)<;>try exact kZ hb)|refine kV ?_)<;>(conv=>whnf))|refine kY ?_ ?_)
   have : k = l.length:=by omega
   subst this
   simp only [List.drop_length,b8] at he
   rw [← he]
theorem HN (l : List (El .slot)) (hl : l.length ≤ big) (hw : ∀ s ∈ l,lN s) : Api Tryz.prog 192 [.vec .slot l,.lit (.func (.func 193) #[] #[])] (bol (l.any eE)):=by
 refine aF Tryz.func192 7 ?_
 conv=>whnf
 repeat' (first|exact trivial|((first|refine kL ?_|(refine ⟨fun hb=>?_,fun hb=>?_⟩<;>(try simp only [nrm] at hb)<;>try exact kZ hb)|(refine isE 250 ?_;refine kA (zy l hl hw) ?_)|(refine isD 250 ?_;refine kD (zy l hl hw) ?_)|refine kV ?_)<;>(conv=>whnf))|refine kY ?_ ?_)
 rw [gT]
theorem Ca (c : Chunk) (cell i : Int) (hc : OkC c) (hf : fH c) (h0 : 0 ≤ i) (h1 : i ≤ 255) : Api Tryz.prog 127 [bq c,i64 cell,.lit (.int .u8 i)] (.tup [bq (cC c cell i).1,i64 (cC c cell i).2]):=by
 have hrt:=gp c hc
 have hbx:=hf.boxes
 cases hR : ai c with
 | false =>
  rw [hR] at hrt
  have hs : cC c cell i = (c,101):=by unfold cC;rw [if_pos hR]
  rw [hs]
  refine aF Tryz.func127 73 ?_
  conv=>whnf
  repeat' (first|exact trivial|((first|refine kL ?_|(refine ⟨fun hb=>?_,fun hb=>?_⟩<;>(try simp only [nrm] at hb)<;>try exact kZ hb)|(refine isE 190 ?_;refine kE (aN c hf) [(390001,150001),(390003,150003),(390005,150005)] rfl ?_)|(refine isD 190 ?_;refine kF (aN c hf) [(390001,150001),(390003,150003),(390005,150005)] rfl ?_)|refine kV ?_)<;>(conv=>whnf))|refine kY ?_ ?_)
  all_goals simp
 | true =>
  rw [hR] at hrt
  have hRC:=dK hR
  have hlen:=hRC.len
  by_cases hin : 0 ≤ cell ∧ cell < 64
  ·by_cases hit : ¬ (i = 0) ∧ cG i = false
   ·have hs : cC c cell i = (c,100):=by unfold cC;rw [if_neg (by rw [hR];simp),if_neg (by omega),if_pos hit]
    rw [hs]
    have hbl:=gS i h0 h1
    rw [hit.2] at hbl
    refine aF Tryz.func127 73 ?_
    conv=>whnf
    repeat' (first|exact trivial|((first|refine kL ?_|(refine ⟨fun hb=>?_,fun hb=>?_⟩<;>(try simp only [nrm] at hb)<;>try exact kZ hb)|(refine isE 190 ?_;refine kE (aN c hf) [(390001,150001),(390003,150003),(390005,150005)] rfl ?_)|(refine isD 190 ?_;refine kF (aN c hf) [(390001,150001),(390003,150003),(390005,150005)] rfl ?_)|(refine isE 175 ?_;refine kA (bz _) ?_)|(refine isD 175 ?_;refine kD (bz _) ?_)|refine kV ?_)<;>(conv=>whnf))|refine kY ?_ ?_)
    all_goals simp
   ·have hbl:=gS i h0 h1
    have hbi : cG i = false → i = 0:=fun hbf=>by
     rcases Classical.em (i = 0) with h|h
     ·exact h
     ·exact absurd ⟨h,hbf⟩ hit
    have hle : c.boxes.length ≤ 4000000000000000000:=by omega
    have hfd:=yI c.boxes cell hle hRC.rises
    have hlb:=Ld cell c.boxes
    generalize hat : lb cell c.boxes = at_ at *
    cases hT : b_ c.boxes cell with
    | false =>
     rw [hT] at hfd
     have hs : cC c cell i = ({ c with cells:=c.cells.set cell.toNat i,boxes:=fj c.boxes cell i },0):=by unfold cC;rw [if_neg (by rw [hR];simp),if_neg (by omega),if_neg hit,if_neg (by rw [hT];simp)]
     have hd : oO c.boxes cell = c.boxes:=by unfold oO;rw [hT];rfl
     rw [hs]
     by_cases h9 : i = 9
     ·have hp : fj c.boxes cell i = c.boxes.take at_ ++ (⟨cell,eo⟩ : Box) :: c.boxes.drop at_:=by unfold fj;rw [if_pos h9,hd,hat]
      rw [hp]
      subst h9
      refine aF Tryz.func127 73 ?_
      conv=>whnf
      repeat' (first|exact trivial|((first|refine kL ?_|(refine ⟨fun hb=>?_,fun hb=>?_⟩<;>(try simp only [nrm] at hb)<;>try exact kZ hb)|(refine isE 190 ?_;refine kE (aN c hf) [(390001,150001),(390003,150003),(390005,150005)] rfl ?_)|(refine isD 190 ?_;refine kF (aN c hf) [(390001,150001),(390003,150003),(390005,150005)] rfl ?_)|refine kE hfd [(1,150005)] rfl ?_|refine kF hfd [(1,150005)] rfl ?_|(refine isE 195 ?_;refine kE (lp c.boxes _ at_ ⟨cell,eo⟩ rfl hlb (by omega)) [(1,150005),(3,135),(390001,150007)] rfl ?_)|(refine isD 195 ?_;refine kF (lp c.boxes _ at_ ⟨cell,eo⟩ rfl hlb (by omega)) [(1,150005),(3,135),(390001,150007)] rfl ?_)|(refine isE 175 ?_;refine kA (bz _) ?_)|(refine isD 175 ?_;refine kD (bz _) ?_)|(refine isE 63 ?_;refine kA (lI 6 (by omega) (by omega)) ?_)|(refine isD 63 ?_;refine kD (lI 6 (by omega) (by omega)) ?_)|refine kV ?_)<;>(conv=>whnf))|refine kY ?_ ?_)
      all_goals (try simp only [List.drop_zero,Nat.add_zero])
      all_goals first|(simp;done)|(refine List.take_of_length_le ?_;simp;done)|(refine List.take_of_length_le ?_;simp;omega)
     ·have hp : fj c.boxes cell i = c.boxes:=by unfold fj;rw [if_neg h9,hd]
      rw [hp]
      refine aF Tryz.func127 73 ?_
      conv=>whnf
      repeat' (first|exact trivial|((first|refine kL ?_|(refine ⟨fun hb=>?_,fun hb=>?_⟩<;>(try simp only [nrm] at hb)<;>try exact kZ hb)|(exact absurd (hbi (by assumption)) (by assumption);done)|(refine isE 190 ?_;refine kE (aN c hf) [(390001,150001),(390003,150003),(390005,150005)] rfl ?_)|(refine isD 190 ?_;refine kF (aN c hf) [(390001,150001),(390003,150003),(390005,150005)] rfl ?_)|refine kE hfd [(1,150005)] rfl ?_|refine kF hfd [(1,150005)] rfl ?_|(refine isE 175 ?_;refine kA (bz _) ?_)|(refine isD 175 ?_;refine kD (bz _) ?_)|refine kV ?_)<;>(conv=>whnf))|refine kY ?_ ?_)
      all_goals (try simp only [List.drop_zero,Nat.add_zero])
      all_goals first|(simp;done)|(refine List.take_of_length_le ?_;simp;done)|(refine List.take_of_length_le ?_;simp;omega)
    | true =>
     rw [hT] at hfd
     obtain ⟨hlt,hce⟩:=ky hT
     rw [hat] at hlt hce
     have hfu:=HN (elt .box c.boxes at_).bag (Nat.le_trans (hc.boxes _ (ao (t:=.box) hlt)).2 (Nat.le_refl _)) (fun _ _=>trivial)
     have hfb : ij (elt .box c.boxes at_).bag = (elt .box c.boxes at_).bag.any eE:=rfl
     cases hF : ij (elt .box c.boxes at_).bag with
     | true =>
      rw [← hfb,hF] at hfu
      have hs : cC c cell i = (c,104):=by unfold cC;rw [if_neg (by rw [hR];simp),if_neg (by omega),if_neg hit,if_pos (by rw [hT,hat,hF];simp)]
      rw [hs]
      refine aF Tryz.func127 73 ?_
      conv=>whnf
      repeat' (first|exact trivial|((first|refine kL ?_|(refine ⟨fun hb=>?_,fun hb=>?_⟩<;>(try simp only [nrm] at hb)<;>try exact kZ hb)|(exact absurd (hbi (by assumption)) (by assumption);done)|(refine isE 190 ?_;refine kE (aN c hf) [(390001,150001),(390003,150003),(390005,150005)] rfl ?_)|(refine isD 190 ?_;refine kF (aN c hf) [(390001,150001),(390003,150003),(390005,150005)] rfl ?_)|refine kE hfd [(1,150005)] rfl ?_|refine kF hfd [(1,150005)] rfl ?_|(refine isE 175 ?_;refine kA (bz _) ?_)|(refine isD 175 ?_;refine kD (bz _) ?_)|refine kV ?_)<;>(conv=>whnf))|refine kY ?_ ?_)
      all_goals simp
     | false =>
      rw [← hfb,hF] at hfu
      have hs : cC c cell i = ({ c with cells:=c.cells.set cell.toNat i,boxes:=fj c.boxes cell i },0):=by unfold cC;rw [if_neg (by rw [hR];simp),if_neg (by omega),if_neg hit,if_neg (by rw [hat,hF];simp)]
      have hd : oO c.boxes cell = c.boxes.take at_ ++ c.boxes.drop (at_ + 1):=by unfold oO;rw [hT,hat];rfl
      have hdl : at_ + (c.boxes.length - (at_ + 1)) = (c.boxes.take at_ ++ c.boxes.drop (at_ + 1)).length:=by simp;omega
      rw [hs]
      by_cases h9 : i = 9
      ·have hp : fj c.boxes cell i = (c.boxes.take at_ ++ c.boxes.drop (at_ + 1)).take at_ ++ (⟨cell,eo⟩ : Box) :: (c.boxes.take at_ ++ c.boxes.drop (at_ + 1)).drop at_:=by unfold fj;rw [if_pos h9,hd,hat]
       rw [hp]
       subst h9
       refine aF Tryz.func127 73 ?_
       conv=>whnf
       repeat' (first|exact trivial|((first|refine kL ?_|(refine ⟨fun hb=>?_,fun hb=>?_⟩<;>(try simp only [nrm] at hb)<;>try exact kZ hb)|(refine isE 190 ?_;refine kE (aN c hf) [(390001,150001),(390003,150003),(390005,150005)] rfl ?_)|(refine isD 190 ?_;refine kF (aN c hf) [(390001,150001),(390003,150003),(390005,150005)] rfl ?_)|refine kE hfd [(1,150005)] rfl ?_|refine kF hfd [(1,150005)] rfl ?_|(refine isE 194 ?_;refine kE (lq c.boxes _ at_ (at_ + 1) rfl (by omega) (by omega) (by omega)) [(1,150005)] rfl ?_)|(refine isD 194 ?_;refine kF (lq c.boxes _ at_ (at_ + 1) rfl (by omega) (by omega) (by omega)) [(1,150005)] rfl ?_)|(refine isE 195 ?_;refine kE (lp (c.boxes.take at_ ++ c.boxes.drop (at_ + 1)) _ at_ ⟨cell,eo⟩ hdl (by omega) (by omega)) [(1,150005),(3,135),(390001,150007)] rfl ?_)|(refine isD 195 ?_;refine kF (lp (c.boxes.take at_ ++ c.boxes.drop (at_ + 1)) _ at_ ⟨cell,eo⟩ hdl (by omega) (by omega)) [(1,150005),(3,135),(390001,150007)] rfl ?_)|(refine isE 175 ?_;refine kA (bz _) ?_)|(refine isD 175 ?_;refine kD (bz _) ?_)|(refine isE 63 ?_;refine kA (lI 6 (by omega) (by omega)) ?_)|(refine isD 63 ?_;refine kD (lI 6 (by omega) (by omega)) ?_)|refine kV ?_)<;>(conv=>whnf))|refine kY ?_ ?_)
       all_goals (try simp only [List.drop_zero,Nat.add_zero])
       all_goals first|(simp;done)|(refine List.take_of_length_le ?_;simp;done)|(refine List.take_of_length_le ?_;simp;omega)
      ·have hp : fj c.boxes cell i = c.boxes.take at_ ++ c.boxes.drop (at_ + 1):=by unfold fj;rw [if_neg h9,hd]
       rw [hp]
       refine aF Tryz.func127 73 ?_
       conv=>whnf
       repeat' (first|exact trivial|((first|refine kL ?_|(refine ⟨fun hb=>?_,fun hb=>?_⟩<;>(try simp only [nrm] at hb)<;>try exact kZ hb)|(exact absurd (hbi (by assumption)) (by assumption);done)|(refine isE 190 ?_;refine kE (aN c hf) [(390001,150001),(390003,150003),(390005,150005)] rfl ?_)|(refine isD 190 ?_;refine kF (aN c hf) [(390001,150001),(390003,150003),(390005,150005)] rfl ?_)|refine kE hfd [(1,150005)] rfl ?_|refine kF hfd [(1,150005)] rfl ?_|(refine isE 194 ?_;refine kE (lq c.boxes _ at_ (at_ + 1) rfl (by omega) (by omega) (by omega)) [(1,150005)] rfl ?_)|(refine isD 194 ?_;refine kF (lq c.boxes _ at_ (at_ + 1) rfl (by omega) (by omega) (by omega)) [(1,150005)] rfl ?_)|(refine isE 175 ?_;refine kA (bz _) ?_)|(refine isD 175 ?_;refine kD (bz _) ?_)|refine kV ?_)<;>(conv=>whnf))|refine kY ?_ ?_)
       all_goals (try simp only [List.drop_zero,Nat.add_zero])
       all_goals first|(simp;done)|(refine List.take_of_length_le ?_;simp;done)|(refine List.take_of_length_le ?_;simp;omega)
  ·have hs : cC c cell i = (c,102):=by unfold cC;rw [if_neg (by rw [hR];simp),if_pos hin]
   rw [hs]
   refine aF Tryz.func127 73 ?_
   conv=>whnf
   repeat' (first|exact trivial|((first|refine kL ?_|(refine ⟨fun hb=>?_,fun hb=>?_⟩<;>(try simp only [nrm] at hb)<;>try exact kZ hb)|(refine isE 190 ?_;refine kE (aN c hf) [(390001,150001),(390003,150003),(390005,150005)] rfl ?_)|(refine isD 190 ?_;refine kF (aN c hf) [(390001,150001),(390003,150003),(390005,150005)] rfl ?_)|(refine isE 175 ?_;refine kA (bz _) ?_)|(refine isD 175 ?_;refine kD (bz _) ?_)|refine kV ?_)<;>(conv=>whnf))|refine kY ?_ ?_)
   all_goals simp
open Go Go.RowKit Eng
def c8 (c : Chunk) (cell : Int) : List aa × Bool:=
 if ai c = false then ([],false) else if b_ c.boxes cell = true then ((elt .box c.boxes (lb cell c.boxes)).bag,true) else ([],false)
theorem Jt (c : Chunk) (cell : Int) (hc : OkC c) (hf : fH c) : Api Tryz.prog 136 [bq c,i64 cell] (.tup [.vec .slot (c8 c cell).1,bol (c8 c cell).2]):=by
 have hrt:=gp c hc
 have hbx:=hf.boxes
 cases hR : ai c with
 | false =>
  rw [hR] at hrt
  have hs : c8 c cell = ([],false):=by unfold c8;rw [if_pos hR]
  rw [hs]
  refine aF Tryz.func136 25 ?_
  exact fD0
 | true =>
  rw [hR] at hrt
  have hRC:=dK hR
  have hle : c.boxes.length ≤ 4000000000000000000:=by omega
  have hfd:=yH c.boxes cell hle hRC.rises
  generalize hat : lb cell c.boxes = at_ at *
  cases hT : b_ c.boxes cell with
  | false =>
   rw [hT] at hfd
   have hs : c8 c cell = ([],false):=by unfold c8;rw [if_neg (by rw [hR];simp),if_neg (by rw [hT];simp)]
   rw [hs]
   refine aF Tryz.func136 25 ?_
   exact fD0
  | true =>
   rw [hT] at hfd
   obtain ⟨hlt,hce⟩:=ky hT
   rw [hat] at hlt hce
   have hbk:=hf.bags _ (ao (t:=.box) hlt)
   have hs : c8 c cell = ((elt .box c.boxes at_).bag,true):=by unfold c8;rw [if_neg (by rw [hR];simp),if_pos hT,hat]
   rw [hs]
   refine aF Tryz.func136 25 ?_
   conv=>whnf
   repeat' (first|exact trivial|((first|refine kL ?_|(refine ⟨fun hb=>?_,fun hb=>?_⟩<;>(try simp only [nrm] at hb)<;>try exact kZ hb)|(refine isE 121 ?_;refine kA (a8 (elt .box c.boxes at_).bag (by omega)) ?_)|(refine isD 121 ?_;refine kD (a8 (elt .box c.boxes at_).bag (by omega)) ?_)|refine kV ?_)<;>(conv=>whnf))|refine kY ?_ ?_)
def ct (c : Chunk) (cell : Int) (l : List aa) : Chunk × Int:=
 if ai c = false then (c,101) else if b_ c.boxes cell = false then (c,102)
 else if ¬ (l.length = 6 ∧ an l = true) then (c,103)
 else ({ c with boxes:=c.boxes.set (lb cell c.boxes) ⟨cell,l⟩ },0)
theorem zz (c : Chunk) (cell : Int) (l : List (El .slot)) (hc : OkC c) (hf : fH c) (hl : l.length * 16 ≤ 140737488351232) (hw : ∀ s ∈ l,aQ s) : Api Tryz.prog 138 [bq c,i64 cell,.vec .slot l] (.tup [bq (ct c cell l).1,i64 (ct c cell l).2]):=by
 have hrt:=gp c hc
 have hbx:=hf.boxes
 cases hR : ai c with
 | false =>
  rw [hR] at hrt
  have hs : ct c cell l = (c,101):=by unfold ct;rw [if_pos hR]
  rw [hs]
  refine aF Tryz.func138 39 ?_
  conv=>whnf
  repeat' (first|exact trivial|((first|refine kL ?_|(refine ⟨fun hb=>?_,fun hb=>?_⟩<;>(try simp only [nrm] at hb)<;>try exact kZ hb)|(refine isE 190 ?_;refine kE (aN c hf) [(390001,150001),(390003,150003),(390005,150005)] rfl ?_)|(refine isD 190 ?_;refine kF (aN c hf) [(390001,150001),(390003,150003),(390005,150005)] rfl ?_)|refine kV ?_)<;>(conv=>whnf))|refine kY ?_ ?_)
  all_goals simp
 | true =>
  rw [hR] at hrt
  have hRC:=dK hR
  have hle : c.boxes.length ≤ 4000000000000000000:=by omega
  have hfd:=yI c.boxes cell hle hRC.rises
  have hbr:=fU l 6 (by unfold big;omega) hw
  generalize hat : lb cell c.boxes = at_ at *
  cases hT : b_ c.boxes cell with
  | false =>
   rw [hT] at hfd
   have hs : ct c cell l = (c,102):=by unfold ct;rw [if_neg (by rw [hR];simp),if_pos hT]
   rw [hs]
   refine aF Tryz.func138 39 ?_
   conv=>whnf
   repeat' (first|exact trivial|((first|refine kL ?_|(refine ⟨fun hb=>?_,fun hb=>?_⟩<;>(try simp only [nrm] at hb)<;>try exact kZ hb)|(refine isE 190 ?_;refine kE (aN c hf) [(390001,150001),(390003,150003),(390005,150005)] rfl ?_)|(refine isD 190 ?_;refine kF (aN c hf) [(390001,150001),(390003,150003),(390005,150005)] rfl ?_)|refine kE hfd [(1,150005)] rfl ?_|refine kF hfd [(1,150005)] rfl ?_|refine kV ?_)<;>(conv=>whnf))|refine kY ?_ ?_)
   all_goals simp
  | true =>
   rw [hT] at hfd
   obtain ⟨hlt,hce⟩:=ky hT
   rw [hat] at hlt hce
   by_cases hb6 : l.length = 6 ∧ an l = true
   ·have hbv : (decide ((l.length : Int) = 6) && an l) = true:=by rw [hb6.2,Bool.and_true];exact decide_eq_true (by omega)
    rw [hbv] at hbr
    have hs : ct c cell l = ({ c with boxes:=c.boxes.set at_ ⟨cell,l⟩ },0):=by unfold ct;rw [if_neg (by rw [hR];simp),if_neg (by rw [hT];simp),if_neg (by simp only [Decidable.not_not];exact hb6),hat]
    rw [hs]
    refine aF Tryz.func138 39 ?_
    conv=>whnf
    repeat' (first|exact trivial|((first|refine kL ?_|(refine ⟨fun hb=>?_,fun hb=>?_⟩<;>(try simp only [nrm] at hb)<;>try exact kZ hb)|(refine isE 190 ?_;refine kE (aN c hf) [(390001,150001),(390003,150003),(390005,150005)] rfl ?_)|(refine isD 190 ?_;refine kF (aN c hf) [(390001,150001),(390003,150003),(390005,150005)] rfl ?_)|refine kE hfd [(1,150005)] rfl ?_|refine kF hfd [(1,150005)] rfl ?_|(refine isE 121 ?_;refine kA (a8 l (by omega)) ?_)|(refine isD 121 ?_;refine kD (a8 l (by omega)) ?_)|refine kV ?_)<;>(conv=>whnf))|refine kY ?_ ?_)
    all_goals (try simp only [List.drop_zero,Nat.add_zero,Int.toNat_natCast])
    all_goals first|(simp;done)|(rw [hce];refine List.take_of_length_le ?_;rw [List.length_set];exact Nat.le_refl _)
   ·have hbv : (decide ((l.length : Int) = 6) && an l) = false:=by
     cases hbo : an l with
     | false=>simp
     | true=>rw [Bool.and_true];exact decide_eq_false (by intro h;exact hb6 ⟨by omega,hbo⟩)
    rw [hbv] at hbr
    have hs : ct c cell l = (c,103):=by unfold ct;rw [if_neg (by rw [hR];simp),if_neg (by rw [hT];simp),if_pos hb6]
    rw [hs]
    refine aF Tryz.func138 39 ?_
    conv=>whnf
    repeat' (first|exact trivial|((first|refine kL ?_|(refine ⟨fun hb=>?_,fun hb=>?_⟩<;>(try simp only [nrm] at hb)<;>try exact kZ hb)|(refine isE 190 ?_;refine kE (aN c hf) [(390001,150001),(390003,150003),(390005,150005)] rfl ?_)|(refine isD 190 ?_;refine kF (aN c hf) [(390001,150001),(390003,150003),(390005,150005)] rfl ?_)|refine kE hfd [(1,150005)] rfl ?_|refine kF hfd [(1,150005)] rfl ?_|refine kV ?_)<;>(conv=>whnf))|refine kY ?_ ?_)
    all_goals simp
def b9 (c : Chunk) (cell : Int) (s : aa) : Chunk × Int:=
 if ai c = false then (c,101) else if ¬ (0 ≤ cell ∧ cell < 64) then (c,102) else if ei s = false then (c,111)
 else if 32 ≤ c.heaps.length then (c,104) else ({ c with heaps:=c.heaps ++ [⟨cell,s⟩] },0)
theorem oP (c : Chunk) (cell : Int) (s : aa) (hc : OkC c) (hf : fH c) (hs : aQ s) : Api Tryz.prog 135 [bq c,i64 cell,.agg [.lit (.int .u8 s.item),.lit (.int .i64 s.n)]] (.tup [bq (b9 c cell s).1,i64 (b9 c cell s).2]):=by
 have hrt:=gp c hc
 have hbx:=hf.heaps
 have hsm:=sE s hs
 cases hR : ai c with
 | false =>
  rw [hR] at hrt
  have hr : b9 c cell s = (c,101):=by unfold b9;rw [if_pos hR]
  rw [hr]
  refine aF Tryz.func135 39 ?_
  conv=>whnf
  repeat' (first|exact trivial|((first|refine kL ?_|(refine ⟨fun hb=>?_,fun hb=>?_⟩<;>(try simp only [nrm] at hb)<;>try exact kZ hb)|(refine isE 190 ?_;refine kE (aN c hf) [(390001,150001),(390003,150003),(390005,150005)] rfl ?_)|(refine isD 190 ?_;refine kF (aN c hf) [(390001,150001),(390003,150003),(390005,150005)] rfl ?_)|refine kV ?_)<;>(conv=>whnf))|refine kY ?_ ?_)
  all_goals simp
 | true =>
  rw [hR] at hrt
  by_cases hin : 0 ≤ cell ∧ cell < 64
  ·cases hS : ei s with
   | false =>
    rw [hS] at hsm
    have hr : b9 c cell s = (c,111):=by unfold b9;rw [if_neg (by rw [hR];simp),if_neg (by omega),if_pos hS]
    rw [hr]
    refine aF Tryz.func135 39 ?_
    conv=>whnf
    repeat' (first|exact trivial|((first|refine kL ?_|(refine ⟨fun hb=>?_,fun hb=>?_⟩<;>(try simp only [nrm] at hb)<;>try exact kZ hb)|(refine isE 190 ?_;refine kE (aN c hf) [(390001,150001),(390003,150003),(390005,150005)] rfl ?_)|(refine isD 190 ?_;refine kF (aN c hf) [(390001,150001),(390003,150003),(390005,150005)] rfl ?_)|(refine isE 175 ?_;refine kA (bz _) ?_)|(refine isD 175 ?_;refine kD (bz _) ?_)|refine kV ?_)<;>(conv=>whnf))|refine kY ?_ ?_)
    all_goals simp
   | true =>
    rw [hS] at hsm
    by_cases hg : 32 ≤ c.heaps.length
    ·have hr : b9 c cell s = (c,104):=by unfold b9;rw [if_neg (by rw [hR];simp),if_neg (by omega),if_neg (by rw [hS];simp),if_pos hg]
     rw [hr]
     refine aF Tryz.func135 39 ?_
     conv=>whnf
     repeat' (first|exact trivial|((first|refine kL ?_|(refine ⟨fun hb=>?_,fun hb=>?_⟩<;>(try simp only [nrm] at hb)<;>try exact kZ hb)|(refine isE 190 ?_;refine kE (aN c hf) [(390001,150001),(390003,150003),(390005,150005)] rfl ?_)|(refine isD 190 ?_;refine kF (aN c hf) [(390001,150001),(390003,150003),(390005,150005)] rfl ?_)|(refine isE 175 ?_;refine kA (bz _) ?_)|(refine isD 175 ?_;refine kD (bz _) ?_)|refine kV ?_)<;>(conv=>whnf))|refine kY ?_ ?_)
     all_goals simp
    ·have hr : b9 c cell s = ({ c with heaps:=c.heaps ++ [⟨cell,s⟩] },0):=by unfold b9;rw [if_neg (by rw [hR];simp),if_neg (by omega),if_neg (by rw [hS];simp),if_neg hg]
     rw [hr]
     refine aF Tryz.func135 39 ?_
     conv=>whnf
     repeat' (first|exact trivial|((first|refine kL ?_|(refine ⟨fun hb=>?_,fun hb=>?_⟩<;>(try simp only [nrm] at hb)<;>try exact kZ hb)|(refine isE 190 ?_;refine kE (aN c hf) [(390001,150001),(390003,150003),(390005,150005)] rfl ?_)|(refine isD 190 ?_;refine kF (aN c hf) [(390001,150001),(390003,150003),(390005,150005)] rfl ?_)|(refine isE 175 ?_;refine kA (bz _) ?_)|(refine isD 175 ?_;refine kD (bz _) ?_)|refine kV ?_)<;>(conv=>whnf))|refine kY ?_ ?_)
     all_goals (try simp only [List.drop_zero,Nat.add_zero,List.take_length])
     all_goals first|(simp;done)|(refine List.take_of_length_le ?_;simp;done)
  ·have hr : b9 c cell s = (c,102):=by unfold b9;rw [if_neg (by rw [hR];simp),if_pos hin]
   rw [hr]
   refine aF Tryz.func135 39 ?_
   conv=>whnf
   repeat' (first|exact trivial|((first|refine kL ?_|(refine ⟨fun hb=>?_,fun hb=>?_⟩<;>(try simp only [nrm] at hb)<;>try exact kZ hb)|(refine isE 190 ?_;refine kE (aN c hf) [(390001,150001),(390003,150003),(390005,150005)] rfl ?_)|(refine isD 190 ?_;refine kF (aN c hf) [(390001,150001),(390003,150003),(390005,150005)] rfl ?_)|(refine isE 175 ?_;refine kA (bz _) ?_)|(refine isD 175 ?_;refine kD (bz _) ?_)|refine kV ?_)<;>(conv=>whnf))|refine kY ?_ ?_)
   all_goals simp
open Go Go.RowKit Eng
def bu : List Box → Int → Option (List aa)
 | [],_=>none
 | b :: r,t=>if b.cell = t then some b.bag else bu r t
theorem ep {l : List Box} {t : Int} : bu l t = none ↔ ∀ b ∈ l,b.cell ≠ t:=by
 induction l with
 | nil=>simp [bu]
 | cons b r ih =>
  simp only [bu,List.mem_cons,forall_eq_or_imp]
  split
  ·rename_i h;simp [h]
  ·rename_i h;rw [ih];exact ⟨fun h2=>⟨h,h2⟩,fun h2=>h2.2⟩
theorem oQ {l : List Box} {t : Int} {s : List aa} (h : bu l t = some s) : ∃ b ∈ l,b.cell = t ∧ b.bag = s:=by
 induction l with
 | nil=>simp [bu] at h
 | cons b r ih =>
  simp only [bu] at h
  split at h
  ·rename_i hb;exact ⟨b,by simp,hb,by simpa using h⟩
  ·obtain ⟨b',h1,h2⟩:=ih h;exact ⟨b',by simp [h1],h2⟩
theorem kc {l : List Box} (h : rises l) {b : Box} (hb : b ∈ l) : bu l b.cell = some b.bag:=by
 induction l with
 | nil=>simp at hb
 | cons a r ih =>
  simp only [bu]
  rcases List.mem_cons.1 hb with rfl|hb
  ·simp
  ·have:=h.1 b hb
   rw [if_neg (by omega)];exact ih h.2 hb
theorem kz {l : List Box} (h : rises l) (t : Int) : b_ l t = true → bu l t = some (elt .box l (lb t l)).bag:=by
 intro ht
 obtain ⟨hlt,hce⟩:=ky ht
 have:=kc h (ao (t:=.box) hlt)
 rw [hce] at this;exact this
theorem oR {l : List Box} (h : rises l) (t : Int) : b_ l t = false → bu l t = none:=by
 intro ht
 rw [ep]
 intro b hb he
 obtain ⟨i,hi,rfl⟩:=List.mem_iff_getElem.1 hb
 have hel : elt .box l i = l[i]:=by have:=ar .box l i hi;rw [List.getElem?_eq_getElem hi] at this;exact (Option.some.inj this).symm
 have hlb : lb t l = i:=Da (by omega) (fun k hk=>by have:=mf h hk hi;rw [hel,he] at this;exact this) (fun _=>by rw [hel,he];exact Int.le_refl _)
 have : b_ l t = true:=by simp only [b_,hlb,hel,he,Bool.and_eq_true,decide_eq_true_eq,beq_self_eq_true,and_true];exact hi
 rw [this] at ht;cases ht
theorem mW {l : List Box} (h : rises l) (t : Int) : b_ l t = (bu l t).isSome:=by
 cases ht : b_ l t with
 | true=>rw [kz h t ht];rfl
 | false=>rw [oR h t ht];rfl
def fI (t : Int) : List Box → List Box
 | []=>[]
 | b :: r=>if b.cell < t then b :: fI t r else if b.cell = t then r else b :: r
theorem rU (b : Box) (r : List Box) (t : Int) : b_ (b :: r) t = if b.cell < t then b_ r t else decide (b.cell = t):=by
 unfold b_
 simp only [lb]
 split
 ·rw [mc];simp
 ·rw [oh,Bool.eq_iff_iff];simp
theorem Cb (t : Int) : ∀ l : List Box,oO l t = fI t l
 | []=>rfl
 | b :: r=>by
  have ih:=Cb t r
  unfold oO at ih ⊢
  rw [rU]
  simp only [lb,fI]
  split
  ·rename_i hb
   rw [← ih]
   split
   ·simp
   ·rfl
  ·rename_i hb
   by_cases he : b.cell = t
   ·simp [he]
   ·simp [he]
theorem oS {t : Int} : ∀ {l : List Box} {x : Box},x ∈ fI t l → x ∈ l
 | [],x,h=>by simp [fI] at h
 | b :: r,x,h=>by
  simp only [fI] at h
  split at h
  ·rcases List.mem_cons.1 h with rfl|h
   ·simp
   ·simp [oS h]
  ·split at h
   ·simp [h]
   ·exact h
theorem lr {t : Int} : ∀ {l : List Box},rises l → rises (fI t l)
 | [],_=>trivial
 | b :: r,h=>by
  simp only [fI]
  split
  ·exact ⟨fun x hx=>h.1 x (oS hx),lr h.2⟩
  ·split
   ·exact h.2
   ·exact h
theorem gc {t u : Int} : ∀ {l : List Box},rises l → bu (fI t l) u = if u = t then none else bu l u
 | [],_=>by simp [fI,bu]
 | b :: r,h=>by
  have ih:=gc (t:=t) (u:=u) h.2
  simp only [fI]
  split
  ·rename_i hb
   simp only [bu,ih]
   split
   ·rename_i hbu;rw [if_neg (by omega)]
   ·rfl
  ·split
   ·rename_i hbe
    by_cases hu : u = t
    ·rw [if_pos hu,ep];intro x hx;have:=h.1 x hx;omega
    ·rw [if_neg hu];simp only [bu];rw [if_neg (by omega)]
   ·rename_i hbt hbe
    by_cases hu : u = t
    ·rw [if_pos hu,ep]
     intro x hx
     rcases List.mem_cons.1 hx with rfl|hx
     ·omega
     ·have:=h.1 x hx;omega
    ·rw [if_neg hu]
def g7 (x : Box) : List Box → List Box
 | []=>[x]
 | b :: r=>if b.cell < x.cell then b :: g7 x r else x :: b :: r
theorem FL (x : Box) : ∀ l : List Box,l.take (lb x.cell l) ++ x :: l.drop (lb x.cell l) = g7 x l
 | []=>rfl
 | b :: r=>by
  simp only [lb,g7]
  split
  ·rw [← FL x r];rfl
  ·rfl
theorem Cc (t : Int) : ∀ l : List Box,rises l → lb t (fI t l) = lb t l
 | [],_=>rfl
 | b :: r,h=>by
  simp only [fI]
  split
  ·rename_i hb;simp only [lb,if_pos hb];rw [Cc t r h.2]
  ·rename_i hb
   split
   ·rename_i he
    simp only [lb,if_neg hb]
    cases r with
    | nil=>rfl
    | cons a r=>simp only [lb];have:=h.1 a (by simp);rw [if_neg (by omega)]
   ·rfl
theorem sZ {x : Box} : ∀ {l : List Box} {y : Box},y ∈ g7 x l → y = x ∨ y ∈ l
 | [],y,h=>by simp [g7] at h;exact .inl h
 | b :: r,y,h=>by
  simp only [g7] at h
  split at h
  ·rcases List.mem_cons.1 h with rfl|h
   ·simp
   ·rcases sZ h with h|h
    ·exact .inl h
    ·simp [h]
  ·rcases List.mem_cons.1 h with rfl|h
   ·exact .inl rfl
   ·exact .inr h
theorem oT {x : Box} : ∀ {l : List Box},rises l → bu l x.cell = none → rises (g7 x l)
 | [],_,_=>⟨by simp,trivial⟩
 | b :: r,h,hn=>by
  have hn':=ep.1 hn
  simp only [g7]
  split
  ·rename_i hb
   refine ⟨fun y hy=>?_,oT h.2 (ep.2 fun y hy=>hn' y (by simp [hy]))⟩
   rcases sZ hy with rfl|hy
   ·exact hb
   ·exact h.1 y hy
  ·rename_i hb
   have h0:=hn' b (by simp)
   refine ⟨fun y hy=>?_,h⟩
   rcases List.mem_cons.1 hy with rfl|hy
   ·omega
   ·have:=h.1 y hy;omega
theorem p7 {x : Box} {u : Int} : ∀ {l : List Box},bu l x.cell = none → bu (g7 x l) u = if u = x.cell then some x.bag else bu l u
 | [],_=>by simp only [g7,bu];by_cases h : u = x.cell<;>simp [h];exact fun e=>absurd e.symm h
 | b :: r,hn=>by
  have hn':=ep.1 hn
  have h0:=hn' b (by simp)
  have ih:=p7 (x:=x) (u:=u) (l:=r) (ep.2 fun y hy=>hn' y (by simp [hy]))
  simp only [g7]
  split
  ·simp only [bu,ih]
   by_cases hbu : b.cell = u
   ·rw [if_pos hbu,if_pos hbu,if_neg (by omega)]
   ·rw [if_neg hbu,if_neg hbu]
  ·simp only [bu]
   by_cases hu : u = x.cell
   ·rw [if_pos hu.symm,if_pos hu]
   ·rw [if_neg (fun e=>hu e.symm),if_neg hu]
theorem rj {l : List Box} (h : rises l) (t i : Int) : fj l t i = if i = 9 then g7 ⟨t,eo⟩ (fI t l) else fI t l:=by
 unfold fj
 rw [Cb]
 have e:=FL ⟨t,eo⟩ (fI t l)
 simp only at e
 rw [Cc t l h] at e
 rw [e]
theorem ls {l : List Box} (h : rises l) (t i : Int) : rises (fj l t i):=by
 rw [rj h]
 split
 ·exact oT (lr h) (by rw [gc h];simp)
 ·exact lr h
theorem wl {l : List Box} (h : rises l) (t i u : Int) : bu (fj l t i) u = if u = t then (if i = 9 then some eo else none) else bu l u:=by
 rw [rj h]
 split
 ·rw [p7 (by rw [gc h];simp),gc h]
  split<;>simp_all
 ·rw [gc h]
theorem zA {l : List Box} (h : rises l) {t i : Int} {x : Box} (hx : x ∈ fj l t i) : x ∈ l ∨ (i = 9 ∧ x = ⟨t,eo⟩):=by
 rw [rj h] at hx
 split at hx
 ·rename_i h9
  rcases sZ hx with rfl|hx
  ·exact .inr ⟨h9,rfl⟩
  ·exact .inl (oS hx)
 ·exact .inl (oS hx)
theorem t_ (x : Box) : ∀ (l : List Box),rises l → b_ l x.cell = true → l.set (lb x.cell l) x = g7 x (fI x.cell l)
 | [],_,h=>by simp [b_] at h
 | b :: r,hr,h=>by
  rw [rU] at h
  simp only [lb,fI]
  split
  ·rename_i hb
   rw [if_pos hb] at h
   simp only [List.set_cons_succ,g7,if_pos hb]
   rw [t_ x r hr.2 h]
  ·rename_i hb
   rw [if_neg hb] at h
   have he : b.cell = x.cell:=by simpa using h
   rw [if_pos he,List.set_cons_zero]
   cases r with
   | nil=>rfl
   | cons a r=>have:=hr.1 a (by simp);simp only [g7];rw [if_neg (by omega)]
def nv (l : List Box) (t : Int) (s : List aa) : List Box:=l.set (lb t l) ⟨t,s⟩
theorem DE {l : List Box} (h : rises l) {t : Int} {s : List aa} (ht : b_ l t = true) : rises (nv l t s):=by
 unfold nv
 rw [t_ ⟨t,s⟩ l h ht]
 exact oT (lr h) (by rw [gc h];simp)
theorem FM {l : List Box} (h : rises l) {t : Int} {s : List aa} (ht : b_ l t = true) (u : Int) : bu (nv l t s) u = if u = t then some s else bu l u:=by
 unfold nv
 rw [t_ ⟨t,s⟩ l h ht,p7 (by rw [gc h];simp),gc h]
 split<;>simp_all
def jq (s : List aa) : Bool:=decide ((s.length : Int) = 6) && an s
theorem HO : jq eo = true:=by decide
structure HP (l : List Int) (k : Nat) (bs : List Box) : Prop where
 items : ∀ i ∈ l,cK i = true
 up : rises bs
 bags : ∀ b ∈ bs,(k : Int) ≤ b.cell ∧ b.cell < k + l.length ∧ jq b.bag = true
 chest : ∀ j < l.length,(l.getD j 0 = 9 ↔ (bu bs ((k : Int) + j)).isSome = true)
theorem oU : ∀ (l : List Int) (k : Nat) (bs : List Box),bT l k bs = some [] ↔ HP l k bs
 | [],k,bs=>by
  simp only [bT,Option.some.injEq]
  constructor
  ·rintro rfl;exact ⟨by simp,trivial,by simp,by simp⟩
  ·intro h
   cases bs with
   | nil=>rfl
   | cons b bs=>have:=h.bags b (by simp);simp only [List.length_nil] at this;omega
 | i :: r,k,bs=>by
  simp only [bT]
  by_cases hi : cK i = true
  ·rw [if_pos hi]
   by_cases h9 : i = 9
   ·rw [if_pos h9]
    cases bs with
    | nil =>
     simp only [reduceCtorEq,false_iff]
     intro h
     have:=(h.chest 0 (by simp)).1 (by simpa using h9)
     simp [bu] at this
    | cons b bs =>
     simp only
     by_cases hb : gn b k = true
     ·rw [if_pos hb,oU r (k + 1) bs]
      simp only [gn,Bool.and_eq_true,beq_iff_eq] at hb
      have hbg : jq b.bag = true:=by unfold jq;rw [hb.2.1,hb.2.2];rfl
      constructor
      ·intro h
       refine ⟨fun x hx=>?_,⟨fun x hx=>?_,h.up⟩,fun x hx=>?_,fun j hj=>?_⟩
       ·rcases List.mem_cons.1 hx with rfl|hx
        ·exact hi
        ·exact h.items x hx
       ·have:=h.bags x hx;omega
       ·rcases List.mem_cons.1 hx with rfl|hx
        ·refine ⟨by omega,by simp only [List.length_cons];omega,hbg⟩
        ·have:=h.bags x hx;refine ⟨by omega,by simp only [List.length_cons];omega,this.2.2⟩
       ·cases j with
        | zero=>simp only [bu];rw [if_pos (by omega)];simp [h9]
        | succ j =>
         have:=h.chest j (by simpa using hj)
         simp only [bu];rw [if_neg (by omega)]
         rw [List.getD_cons_succ,this]
         rw [show ((k + 1 : Nat) : Int) + j = k + ((j + 1 : Nat) : Int) by omega]
      ·intro h
       refine ⟨fun x hx=>h.items x (by simp [hx]),h.up.2,fun x hx=>?_,fun j hj=>?_⟩
       ·have h1:=h.bags x (by simp [hx])
        have h2:=h.up.1 x hx
        simp only [List.length_cons] at h1
        refine ⟨by omega,by omega,h1.2.2⟩
       ·have:=h.chest (j + 1) (by simpa using hj)
        simp only [bu] at this;rw [if_neg (by omega)] at this
        rw [List.getD_cons_succ] at this
        rw [this]
        rw [show ((k + 1 : Nat) : Int) + j = k + ((j + 1 : Nat) : Int) by omega]
     ·rw [if_neg hb]
      simp only [reduceCtorEq,false_iff]
      intro h
      refine hb ?_
      have h0:=(h.chest 0 (by simp)).1 (by simpa using h9)
      have hbb:=h.bags b (by simp)
      have hk : b.cell = k:=by
       rw [Option.isSome_iff_exists] at h0
       obtain ⟨s,hs⟩:=h0
       obtain ⟨x,hx,hxe,_⟩:=oQ hs
       rcases List.mem_cons.1 hx with rfl|hx
       ·simpa using hxe
       ·have:=h.up.1 x hx;simp only [Int.natCast_zero,Int.add_zero] at hxe;omega
      have h2:=hbb.2.2
      simp only [jq,Bool.and_eq_true] at h2
      simp only [gn,Bool.and_eq_true,beq_iff_eq]
      exact ⟨hk,h2.1,h2.2⟩
   ·rw [if_neg h9,oU r (k + 1) bs]
    constructor
    ·intro h
     refine ⟨fun x hx=>?_,h.up,fun x hx=>?_,fun j hj=>?_⟩
     ·rcases List.mem_cons.1 hx with rfl|hx
      ·exact hi
      ·exact h.items x hx
     ·have:=h.bags x hx;refine ⟨by omega,by simp only [List.length_cons];omega,this.2.2⟩
     ·cases j with
      | zero =>
       have : bu bs ((k : Int) + ((0 : Nat) : Int)) = none:=ep.2 fun x hx=>by have:=h.bags x hx;omega
       rw [this];simp [h9]
      | succ j =>
       have:=h.chest j (by simpa using hj)
       rw [List.getD_cons_succ,this]
       rw [show ((k + 1 : Nat) : Int) + j = k + ((j + 1 : Nat) : Int) by omega]
    ·intro h
     have h0 : bu bs (k : Int) = none:=by
      have:=h.chest 0 (by simp)
      simp only [List.getD_cons_zero,Int.natCast_zero,Int.add_zero,h9,false_iff] at this
      simpa using this
     refine ⟨fun x hx=>h.items x (by simp [hx]),h.up,fun x hx=>?_,fun j hj=>?_⟩
     ·have h1:=h.bags x hx
      have h2:=ep.1 h0 x hx
      simp only [List.length_cons] at h1
      refine ⟨by omega,by omega,h1.2.2⟩
     ·have:=h.chest (j + 1) (by simpa using hj)
      rw [List.getD_cons_succ] at this
      rw [this]
      rw [show ((k + 1 : Nat) : Int) + j = k + ((j + 1 : Nat) : Int) by omega]
  ·rw [if_neg hi]
   simp only [reduceCtorEq,false_iff]
   intro h
   exact hi (h.items i (by simp))
theorem dX (c : Chunk) : ai c = true ↔ dP c = true ∧ HP c.cells 0 c.boxes ∧ c.heaps.any cw = false:=by
 constructor
 ·intro h
  obtain ⟨h1,h2,h3⟩:=dK h
  exact ⟨h1,(oU _ _ _).1 h2,h3⟩
 ·rintro ⟨h1,h2,h3⟩
  unfold ai
  rw [h1,(oU _ _ _).2 h2,h3];rfl
theorem rV : ∀ {l : List Box} (lo : Int) {hi : Int},rises l → (∀ b ∈ l,lo ≤ b.cell ∧ b.cell < hi) → lo ≤ hi → (l.length : Int) ≤ hi - lo
 | [],lo,hi,_,_,h=>by simp;omega
 | b :: r,lo,hi,h,hb,hlh=>by
  have h0:=hb b (by simp)
  have:=rV (l:=r) (b.cell + 1) (hi:=hi) h.2 (fun x hx=>by have:=h.1 x hx;have:=hb x (by simp [hx]);omega) (by omega)
  simp only [List.length_cons];omega
theorem eu {c : Chunk} (h : ai c = true) : c.cells.length = 64:=(dK h).len
theorem cS {c : Chunk} (h : ai c = true) : HP c.cells 0 c.boxes:=((dX c).1 h).2.1
theorem i7 {c : Chunk} (h : ai c = true) {b : Box} (hb : b ∈ c.boxes) : b.bag.length = 6 ∧ an b.bag = true:=by
 have:=((cS h).bags b hb).2.2
 simp only [jq,Bool.and_eq_true,decide_eq_true_eq] at this
 exact ⟨by omega,this.2⟩
theorem fJ {c : Chunk} (h : ai c = true) : c.heaps.length ≤ 32:=by
 have:=((dX c).1 h).1
 simp only [dP,Bool.and_eq_true,decide_eq_true_eq] at this;omega
theorem rW {c : Chunk} (h : ai c = true) : c.boxes.length ≤ 64:=by
 have hf:=cS h
 have:=rV (l:=c.boxes) 0 (hi:=64) hf.up (fun b hb=>by have:=hf.bags b hb;rw [eu h] at this;omega) (by omega)
 omega
theorem aV {c : Chunk} (h : ai c = true) : fH c:=
 ⟨by rw [eu h];omega,by have:=fJ h;omega,by have:=rW h;omega,fun b hb=>by rw [(i7 h hb).1];omega⟩
def p8 (c : Chunk) (t i : Int) : Chunk:={ c with cells:=c.cells.set t.toNat i,boxes:=fj c.boxes t i }
theorem FN {c : Chunk} (h : ai c = true) {t i : Int} (ht : 0 ≤ t) (ht2 : t < 64) (hi : cK i = true) : ai (p8 c t i) = true:=by
 obtain ⟨h1,h2,h3⟩:=(dX c).1 h
 have hl:=eu h
 rw [dX]
 refine ⟨?_,⟨fun x hx=>?_,ls h2.up t i,fun b hb=>?_,fun j hj=>?_⟩,h3⟩
 ·rw [← h1];unfold dP;rw [show (p8 c t i).cells.length = c.cells.length by simp [p8]];rfl
 ·rcases List.mem_or_eq_of_mem_set hx with hx|rfl
  ·exact h2.items x hx
  ·exact hi
 ·simp only [p8,List.length_set]
  rcases zA h2.up hb with hb|⟨_,rfl⟩
  ·exact h2.bags b hb
  ·refine ⟨by simpa using ht,by simp only [hl];simpa using ht2,HO⟩
 ·simp only [p8,List.length_set] at hj ⊢
  rw [wl h2.up]
  have hc:=h2.chest j hj
  by_cases hjt : j = t.toNat
  ·subst hjt
   rw [if_pos (by simp;omega)]
   simp only [List.getD_eq_getElem?_getD,List.getElem?_set_self hj,Option.getD_some]
   split<;>simp_all
  ·rw [if_neg (by simp;omega)]
   simp only [List.getD_eq_getElem?_getD,List.getElem?_set_ne (fun e=>hjt e.symm)] at hc ⊢
   exact hc
def jr (c : Chunk) (t : Int) : Bool:=match bu c.boxes t with
 | some s=>ij s
 | none=>false
theorem lu {c : Chunk} (h : ai c = true) {t i : Int} (ht : 0 ≤ t) (ht2 : t < 64) :
  cC c t i = if cK i = false then (c,100) else if jr c t = true then (c,104) else (p8 c t i,0):=by
 have hu:=(cS h).up
 unfold cC
 rw [if_neg (by rw [h];simp),if_neg (by omega)]
 have e1 : (¬ (i = 0) ∧ cG i = false) ↔ cK i = false:=by simp [cK]
 by_cases hi : cK i = false
 ·rw [if_pos (e1.2 hi),if_pos hi]
 ·rw [if_neg (fun x=>hi (e1.1 x)),if_neg hi]
  have e2 : (b_ c.boxes t = true ∧ ij (elt .box c.boxes (lb t c.boxes)).bag = true) ↔ jr c t = true:=by
   unfold jr
   cases hth : b_ c.boxes t with
   | true=>rw [kz hu t hth];simp
   | false=>rw [oR hu t hth];simp
  by_cases hf : jr c t = true
  ·rw [if_pos (e2.2 hf),if_pos hf]
  ·rw [if_neg (fun x=>hf (e2.1 x)),if_neg hf];rfl
theorem Lr {l : List Int} {a : Int} : l.getD a.toNat 0 = elt .u8 l a.toNat:=by
 unfold elt
 simp only [List.getD_eq_getElem?_getD]
 rfl
theorem wm {c : Chunk} (h : ai c = true) {a : Int} (h0 : 0 ≤ a) (h1 : a < 64) : elt .u8 c.cells a.toNat = 9 ↔ (bu c.boxes a).isSome = true:=by
 have:=(cS h).chest a.toNat (by rw [eu h];omega)
 rw [Lr,show ((0 : Nat) : Int) + (a.toNat : Int) = a by omega] at this
 exact this
theorem lv {c : Chunk} (h : ai c = true) {t i : Int} (ht : 0 ≤ t) (ht2 : t < 64) : ai (cC c t i).1 = true:=by
 rw [lu h ht ht2]
 split
 ·exact h
 ·rename_i hi
  split
  ·exact h
  ·exact FN h ht ht2 (by simpa using hi)
theorem g8 {c : Chunk} (h : ai c = true) (t : Int) : c8 c t = ((bu c.boxes t).getD [],(bu c.boxes t).isSome):=by
 have hu:=(cS h).up
 unfold c8
 rw [if_neg (by rw [h];simp)]
 cases hth : b_ c.boxes t with
 | true=>rw [kz hu t hth];rfl
 | false=>rw [oR hu t hth];rfl
def vj (c : Chunk) (t : Int) (l : List aa) : Chunk:={ c with boxes:=nv c.boxes t l }
theorem HQ {l : List Box} {t : Int} {s : List aa} {x : Box} (hx : x ∈ nv l t s) : x ∈ l ∨ x = ⟨t,s⟩:=by
 rcases List.mem_or_eq_of_mem_set hx with h|h
 ·exact .inl h
 ·exact .inr h
theorem FO {c : Chunk} (h : ai c = true) {t : Int} {l : List aa} (ht : b_ c.boxes t = true) (hl : jq l = true) : ai (vj c t l) = true:=by
 obtain ⟨h1,h2,h3⟩:=(dX c).1 h
 rw [dX]
 refine ⟨h1,⟨h2.items,DE h2.up ht,fun b hb=>?_,fun j hj=>?_⟩,h3⟩
 ·rcases HQ hb with hb|rfl
  ·exact h2.bags b hb
  ·have hg:=kz h2.up t ht
   obtain ⟨x,hx,hxe,_⟩:=oQ hg
   have:=h2.bags x hx
   exact ⟨by simp only;omega,by simp only [vj];omega,hl⟩
 ·show c.cells.getD j 0 = 9 ↔ (bu (nv c.boxes t l) _).isSome = true
  rw [FM h2.up ht,h2.chest j hj]
  split
  ·rename_i he;rw [he,kz h2.up t ht];simp
  ·rfl
theorem kd {c : Chunk} (h : ai c = true) (t : Int) (l : List aa) :
  ct c t l = if (bu c.boxes t).isSome = false then (c,102) else if jq l = false then (c,103) else (vj c t l,0):=by
 unfold ct
 rw [if_neg (by rw [h];simp),mW (cS h).up]
 split
 ·rfl
 ·have e : (¬ (l.length = 6 ∧ an l = true)) ↔ jq l = false:=by
   unfold jq
   cases an l<;>simp<;>omega
  by_cases hb : jq l = false
  ·rw [if_pos (e.2 hb),if_pos hb]
  ·rw [if_neg (fun x=>hb (e.1 x)),if_neg hb];rfl
open Go Go.RowKit Eng
theorem ua (h : du) (cell : Int) (out : List (El .slot)) (n : Nat) (hn : n = out.length) (hne : ¬ h.cell = cell) : Ev1 Tryz.prog 206 [.agg [.lit (.int .i64 h.cell),.lit (.int .u8 h.slot.item),.lit (.int .i64 h.slot.n)],.ptr 0 0,.ptr 2 0] [(0,.box [i64 cell]),(2,.box [.own .slot 1 0 n none]),(1,.row .slot out)] (bol false) [(0,.box [i64 cell]),(2,.box [.own .slot 1 0 n none]),(1,.row .slot out)]:=by
 subst hn
 refine eF Tryz.func206 15 ?_
 conv=>whnf
 repeat' (first|exact trivial|((first|(refine ⟨fun hb=>?_,fun hb=>?_⟩<;>(try simp only [nrm] at hb)<;>try exact kZ hb)|refine kV ?_)<;>(conv=>whnf))|refine kY ?_ ?_)
 all_goals first|(refine congrArg Value.bool ?_;simp [hne];done)|exact List.take_length|exact Nat.le_refl _|(simp;done)|(refine List.take_of_length_le ?_;simp;done)|rfl
theorem ke (h : du) (cell : Int) (hne : ¬ h.cell = cell) : Ev1 Tryz.prog 206 [.agg [.lit (.int .i64 h.cell),.lit (.int .u8 h.slot.item),.lit (.int .i64 h.slot.n)],.ptr 0 0,.ptr 2 0] [(0,.box [i64 cell]),(2,.box [.lit (.slice none 0 0)])] (bol false) [(0,.box [i64 cell]),(2,.box [.lit (.slice none 0 0)])]:=by
 refine eF Tryz.func206 15 ?_
 conv=>whnf
 repeat' (first|exact trivial|((first|(refine ⟨fun hb=>?_,fun hb=>?_⟩<;>(try simp only [nrm] at hb)<;>try exact kZ hb)|refine kV ?_)<;>(conv=>whnf))|refine kY ?_ ?_)
 all_goals first|(refine congrArg Value.bool ?_;simp [hne];done)|exact List.take_length|exact Nat.le_refl _|(simp;done)|(refine List.take_of_length_le ?_;simp;done)|rfl
theorem wn (h : du) (cell : Int) (out : List (El .slot)) (n : Nat) (hn : n = out.length) (ho : (out.length + 1) * 16 ≤ 140737488355328) (hne : h.cell = cell) : Ev1 Tryz.prog 206 [.agg [.lit (.int .i64 h.cell),.lit (.int .u8 h.slot.item),.lit (.int .i64 h.slot.n)],.ptr 0 0,.ptr 2 0] [(0,.box [i64 cell]),(2,.box [.own .slot 1 0 n none]),(1,.row .slot out)] (bol true) [(0,.box [i64 cell]),(2,.box [.own .slot 390001 0 (out.length + 1) none]),(390001,.row .slot (out ++ [h.slot]))]:=by
 subst hn
 refine eF Tryz.func206 15 ?_
 conv=>whnf
 repeat' (first|exact trivial|((first|(refine ⟨fun hb=>?_,fun hb=>?_⟩<;>(try simp only [nrm] at hb)<;>try exact kZ hb)|refine kV ?_)<;>(conv=>whnf))|refine kY ?_ ?_)
 all_goals first|(refine congrArg Value.bool ?_;simp [hne];done)|exact List.take_length|exact Nat.le_refl _|(simp;done)|(refine List.take_of_length_le ?_;simp;done)|rfl|(rw [List.take_length];refine List.take_of_length_le ?_;simp;done)
theorem ub (h : du) (cell : Int) (hne : h.cell = cell) : Ev1 Tryz.prog 206 [.agg [.lit (.int .i64 h.cell),.lit (.int .u8 h.slot.item),.lit (.int .i64 h.slot.n)],.ptr 0 0,.ptr 2 0] [(0,.box [i64 cell]),(2,.box [.lit (.slice none 0 0)])] (bol true) [(0,.box [i64 cell]),(2,.box [.own .slot 390001 0 1 none]),(390001,.row .slot [h.slot])]:=by
 refine eF Tryz.func206 15 ?_
 conv=>whnf
 repeat' (first|exact trivial|((first|(refine ⟨fun hb=>?_,fun hb=>?_⟩<;>(try simp only [nrm] at hb)<;>try exact kZ hb)|refine kV ?_)<;>(conv=>whnf))|refine kY ?_ ?_)
 all_goals first|(refine congrArg Value.bool ?_;simp [hne];done)|exact List.take_length|exact Nat.le_refl _|(simp;done)|(refine List.take_of_length_le ?_;simp;done)|rfl|(rw [List.take_length];refine List.take_of_length_le ?_;simp)
def hit (cell : Int) (h : du) : Bool:=h.cell == cell
def miss (cell : Int) (h : du) : Bool:=!(h.cell == cell)
def de (cell : Int) (l : List du) : List du:=l.filter (miss cell)
def c7 (cell : Int) (l : List du) : List aa:=(l.filter (hit cell)).map (·.slot)
theorem zB (l : List (El .heap)) (cell : Int) (hl : l.length ≤ 9000000000000000000) (hm : ∀ k < l.length,¬ (elt .heap l k).cell = cell) : Ev1 Tryz.prog 228 [.own .heap 1 0 l.length none,.clo (.func 206) [] [.ptr 0 0,.ptr 2 0]] [(0,.box [i64 cell]),(2,.box [.lit (.slice none 0 0)]),(1,.row .heap l)] (i64 (-1)) [(0,.box [i64 cell]),(2,.box [.lit (.slice none 0 0)]),(1,.row .heap l)]:=by
 refine eF Tryz.func228 17 ?_
 conv=>whnf
 refine ap.loopS ah (σ:=Nat) [0,1,7,8] (fun k=>[.own .heap 1 0 l.length none,.clo (.func 206) [] [.ptr 0 0,.ptr 2 0],i64 l.length,i64 k]) (fun _=>[(0,.box [i64 cell]),(2,.box [.lit (.slice none 0 0)]),(1,.row .heap l)]) (fun k=>k ≤ l.length) (fun k=>l.length - k) 0 (by omega) ?_ ?_
 ·exact fD0
 ·intro k hk
  by_cases hlt : k < l.length
  ·conv=>whnf
   repeat' (first|exact trivial|((first|refine kL ?_|(refine ⟨fun hb=>?_,fun hb=>?_⟩<;>(try simp only [nrm] at hb)<;>try exact kZ hb)|(refine isE 206 ?_;refine kE (ke (elt .heap l k) cell (hm k hlt)) [(0,0),(2,2)] rfl ?_)|(refine isD 206 ?_;refine kF (ke (elt .heap l k) cell (hm k hlt)) [(0,0),(2,2)] rfl ?_)|refine kV ?_)<;>(conv=>whnf))|refine kY ?_ ?_)
   refine .to (k + 1) hlt (by omega) ?_
   exact fD0
  ·obtain rfl : k = l.length:=by omega
   exact fD0
theorem zC (l : List (El .heap)) (cell : Int) (i : Nat) (hl : l.length ≤ 9000000000000000000) (hi : i < l.length) (hm : ∀ k < i,¬ (elt .heap l k).cell = cell) (hh : (elt .heap l i).cell = cell) : Ev1 Tryz.prog 228 [.own .heap 1 0 l.length none,.clo (.func 206) [] [.ptr 0 0,.ptr 2 0]] [(0,.box [i64 cell]),(2,.box [.lit (.slice none 0 0)]),(1,.row .heap l)] (i64 i) [(0,.box [i64 cell]),(2,.box [.own .slot 390001 0 1 none]),(1,.row .heap l),(390001,.row .slot [(elt .heap l i).slot])]:=by
 refine eF Tryz.func228 17 ?_
 conv=>whnf
 refine ap.loopS ah (σ:=Nat) [0,1,7,8] (fun k=>[.own .heap 1 0 l.length none,.clo (.func 206) [] [.ptr 0 0,.ptr 2 0],i64 l.length,i64 k]) (fun _=>[(0,.box [i64 cell]),(2,.box [.lit (.slice none 0 0)]),(1,.row .heap l)]) (fun k=>k ≤ i) (fun k=>l.length - k) 0 (by omega) ?_ ?_
 ·exact fD0
 ·intro k hk
  by_cases hlt : k < i
  ·conv=>whnf
   repeat' (first|exact trivial|((first|refine kL ?_|(refine ⟨fun hb=>?_,fun hb=>?_⟩<;>(try simp only [nrm] at hb)<;>try exact kZ hb)|(refine isE 206 ?_;refine kE (ke (elt .heap l k) cell (hm k hlt)) [(0,0),(2,2)] rfl ?_)|(refine isD 206 ?_;refine kF (ke (elt .heap l k) cell (hm k hlt)) [(0,0),(2,2)] rfl ?_)|refine kV ?_)<;>(conv=>whnf))|refine kY ?_ ?_)
   refine .to (k + 1) hlt (by omega) ?_
   exact fD0
  ·obtain rfl : k = i:=by omega
   conv=>whnf
   repeat' (first|exact trivial|((first|refine kL ?_|(refine ⟨fun hb=>?_,fun hb=>?_⟩<;>(try simp only [nrm] at hb)<;>try exact kZ hb)|(refine isE 206 ?_;refine kE (ub (elt .heap l k) cell hh) [(0,0),(2,2),(390001,350001)] rfl ?_)|(refine isD 206 ?_;refine kF (ub (elt .heap l k) cell hh) [(0,0),(2,2),(390001,350001)] rfl ?_)|refine kV ?_)<;>(conv=>whnf))|refine kY ?_ ?_)
   all_goals first|exact List.take_length|rfl
theorem oV {cell : Int} {l : List du} {k : Nat} (h : k < l.length) : de cell (l.take (k + 1)) = de cell (l.take k) ++ (if (elt .heap l k).cell = cell then [] else [elt .heap l k]):=by
 have:=ar .heap l k h
 unfold de
 rw [List.take_add_one,this,List.filter_append]
 by_cases hc : (elt .heap l k).cell = cell
 ·rw [if_pos hc];simp [miss,hc]
 ·rw [if_neg hc];simp [miss,hc]
theorem oW {cell : Int} {l : List du} {k : Nat} (h : k < l.length) : c7 cell (l.take (k + 1)) = c7 cell (l.take k) ++ (if (elt .heap l k).cell = cell then [(elt .heap l k).slot] else []):=by
 have:=ar .heap l k h
 unfold c7
 rw [List.take_add_one,this,List.filter_append,List.map_append]
 by_cases hc : (elt .heap l k).cell = cell
 ·rw [if_pos hc];simp [hit,hc]
 ·rw [if_neg hc];simp [hit,hc]
theorem s5 {cell : Int} {l : List du} {k : Nat} (h : k ≤ l.length) : (de cell (l.take k)).length ≤ k:=by
 have:=List.length_filter_le (miss cell) (l.take k)
 rw [List.length_take,Nat.min_eq_left h] at this;exact this
theorem zD {cell : Int} {l : List du} {k : Nat} (h : k ≤ l.length) : (c7 cell (l.take k)).length ≤ k:=by
 have:=List.length_filter_le (hit cell) (l.take k)
 rw [List.length_take,Nat.min_eq_left h] at this
 unfold c7;rw [List.length_map];exact this
theorem wq {cell : Int} {l : List du} (hm : ∀ k < l.length,¬ (elt .heap l k).cell = cell) : de cell l = l ∧ c7 cell l = []:=by
 have hx : ∀ x ∈ l,¬ x.cell = cell:=by
  intro x hx
  obtain ⟨i,hi,rfl⟩:=List.mem_iff_getElem.1 hx
  have:=ar .heap l i hi
  rw [List.getElem?_eq_getElem hi] at this
  rw [Option.some.inj this];exact hm i hi
 constructor
 ·exact List.filter_eq_self.2 fun x h=>by simp [miss,hx x h]
 ·unfold c7
  rw [List.filter_eq_nil_iff.2 fun x h=>by simp [hit,hx x h]];rfl
theorem zF (l : List (El .heap)) (cell : Int) (hl : l.length ≤ 9000000000000000000) (hm : ∀ k < l.length,¬ (elt .heap l k).cell = cell) : Ev1 Tryz.prog 205 [.own .heap 1 0 l.length none,.clo (.func 206) [] [.ptr 0 0,.ptr 2 0]] [(0,.box [i64 cell]),(2,.box [.lit (.slice none 0 0)]),(1,.row .heap l)] (.own .heap 1 0 l.length none) [(0,.box [i64 cell]),(2,.box [.lit (.slice none 0 0)]),(1,.row .heap l)]:=by
 refine eF Tryz.func205 40 ?_
 conv=>whnf
 repeat' (first|exact trivial|((first|refine kL ?_|(refine ⟨fun hb=>?_,fun hb=>?_⟩<;>(try simp only [nrm] at hb)<;>try exact kZ hb)|(refine isE 228 ?_;refine kE (zB l cell hl hm) [(0,0),(2,2),(1,1)] rfl ?_)|(refine isD 228 ?_;refine kF (zB l cell hl hm) [(0,0),(2,2),(1,1)] rfl ?_)|refine kV ?_)<;>(conv=>whnf))|refine kY ?_ ?_)
 all_goals first|exact List.take_length
theorem zG (l : List (El .heap)) (cell : Int) (i : Nat) (hl : l.length ≤ 4000000000000) (hi : i < l.length) (hm : ∀ k < i,¬ (elt .heap l k).cell = cell) (hh : (elt .heap l i).cell = cell) : Ev1 Tryz.prog 205 [.own .heap 1 0 l.length none,.clo (.func 206) [] [.ptr 0 0,.ptr 2 0]] [(0,.box [i64 cell]),(2,.box [.lit (.slice none 0 0)]),(1,.row .heap l)] (.own .heap 1 0 (de cell l).length none) [(0,.box [i64 cell]),(2,.box [.own .slot 390001 0 (c7 cell l).length none]),(1,.row .heap (de cell l)),(390001,.row .slot (c7 cell l))]:=by
 have hpre : de cell (l.take i) = l.take i ∧ c7 cell (l.take i) = []:=by
  refine wq fun k hk=>?_
  rw [List.length_take,Nat.min_eq_left (by omega)] at hk
  have e : elt .heap (l.take i) k = elt .heap l k:=by unfold elt;rw [List.getElem?_take_of_lt hk]
  rw [e];exact hm k hk
 refine eF Tryz.func205 40 ?_
 conv=>whnf
 repeat' (first|exact trivial|((first|refine kL ?_|(refine ⟨fun hb=>?_,fun hb=>?_⟩<;>(try simp only [nrm] at hb)<;>try exact kZ hb)|(refine isE 228 ?_;refine kE (zC l cell i (by omega) hi hm hh) [(0,0),(2,2),(1,1),(390001,350001)] rfl ?_)|(refine isD 228 ?_;refine kF (zC l cell i (by omega) hi hm hh) [(0,0),(2,2),(1,1),(390001,350001)] rfl ?_)|refine kV ?_)<;>(conv=>whnf))|refine kY ?_ ?_)
 have e0 : de cell (l.take (i + 1)) = l.take i:=by rw [oV hi,if_pos hh,List.append_nil,hpre.1]
 have e1 : c7 cell (l.take (i + 1)) = [(elt .heap l i).slot]:=by rw [oW hi,if_pos hh,hpre.2];rfl
 refine ap.loopS ah (σ:=Nat × List du) [0,1,5,6] (fun (j,mid)=>[.own .heap 1 0 l.length none,.clo (.func 206) [] [.ptr 0 0,.ptr 2 0],i64 (de cell (l.take j)).length,i64 j])
  (fun (j,mid)=>[(0,.box [i64 cell]),(2,.box [.own .slot 350001 0 (c7 cell (l.take j)).length none]),(1,.row .heap (de cell (l.take j) ++ (mid ++ l.drop j))),(350001,.row .slot (c7 cell (l.take j)))])
  (fun (j,mid)=>i < j ∧ j ≤ l.length ∧ (de cell (l.take j)).length + mid.length = j ∧ 0 < mid.length) (fun (j,mid)=>l.length - j) (i + 1,[elt .heap l i]) ⟨by omega,by omega,by rw [e0];simp;omega,by simp⟩ ?_ ?_
 ·conv=>whnf
  repeat' (first|exact trivial|((first|(refine ⟨fun hb=>?_,fun hb=>?_⟩<;>(try simp only [nrm] at hb)<;>try exact kZ hb)|refine kV ?_)<;>(conv=>whnf))|refine kY ?_ ?_)
  ·rw [e0,List.take_length]
   conv=>lhs;rw [← List.take_append_drop i l,aY (t:=.heap) hi]
   rfl
  ·rw [e0,List.length_take,Nat.min_eq_left (by omega)]
  ·rw [e1];rfl
  ·rw [e1];rfl
 ·rintro ⟨j,mid⟩ ⟨h1,h2,h3,h4⟩
  dsimp only
  by_cases hlt : j < l.length
  ·have hKn:=oV (cell:=cell) hlt
   have hHn:=oW (cell:=cell) hlt
   have hHl:=zD (cell:=cell) h2
   generalize de cell (l.take j) = K at *
   generalize c7 cell (l.take j) = H at *
   have hRl : (K ++ (mid ++ l.drop j)).length = l.length:=by simp;omega
   have hRe : elt .heap (K ++ (mid ++ l.drop j)) j = elt .heap l j:=by
    unfold elt
    rw [← List.append_assoc,List.getElem?_append_right (by simp;omega),List.length_append,h3,Nat.sub_self,List.getElem?_drop];rfl
   generalize hR : K ++ (mid ++ l.drop j) = R at *
   have hRe2 : (elt .heap R ((j : Int).toNat + 0)).cell = (elt .heap R j).cell:=by simp
   by_cases hc : (elt .heap R j).cell = cell
   ·rw [hRe] at hc
    rw [if_pos hc] at hKn hHn
    rw [← hRe] at hc
    conv=>whnf
    repeat' (first|exact trivial|((first|refine kL ?_|(refine ⟨fun hb=>?_,fun hb=>?_⟩<;>(try simp only [nrm] at hb)<;>try exact kZ hb)|(refine isE 206 ?_;refine kE (wn (elt .heap R j) cell H _ rfl (by omega) hc) [(0,0),(2,2),(1,350001),(390001,350003)] rfl ?_)|(refine isD 206 ?_;refine kF (wn (elt .heap R j) cell H _ rfl (by omega) hc) [(0,0),(2,2),(1,350001),(390001,350003)] rfl ?_)|refine kV ?_)<;>(conv=>whnf))|refine kY ?_ ?_)
    refine .to (j + 1,mid ++ [elt .heap l j]) ⟨by dsimp only;omega,by dsimp only;omega,by dsimp only;rw [hKn];simp;omega,by simp⟩ (by dsimp only;omega) ?_
    have hrow : R = de cell (l.take (j + 1)) ++ ((mid ++ [elt .heap l j]) ++ l.drop (j + 1)):=by
     rw [← hR,hKn,aY (t:=.heap) hlt];simp
    rw [List.append_nil] at hKn
    conv=>whnf
    repeat' (first|exact trivial|((first|(refine ⟨fun hb=>?_,fun hb=>?_⟩<;>(try simp only [nrm] at hb)<;>try exact kZ hb)|refine kV ?_)<;>(conv=>whnf))|refine kY ?_ ?_)
    ·exact (aC hRl).trans hrow
    ·show Value.int .i64 (K.length : Int) = Value.int .i64 ((de cell (l.take (j + 1))).length : Int);rw [hKn]
    ·show H.length + 1 = (c7 cell (l.take (j + 1))).length;rw [hHn];simp
    ·show List.take _ _ = c7 cell (l.take (j + 1));rw [hHn,hRe];exact aC (by simp)
   ·rw [hRe] at hc
    rw [if_neg hc] at hKn hHn
    rw [← hRe] at hc
    conv=>whnf
    repeat' (first|exact trivial|((first|refine kL ?_|(refine ⟨fun hb=>?_,fun hb=>?_⟩<;>(try simp only [nrm] at hb)<;>try exact kZ hb)|(refine isE 206 ?_;refine kE (ua (elt .heap R j) cell H _ rfl hc) [(0,0),(2,2),(1,350001)] rfl ?_)|(refine isD 206 ?_;refine kF (ua (elt .heap R j) cell H _ rfl hc) [(0,0),(2,2),(1,350001)] rfl ?_)|refine kV ?_)<;>(conv=>whnf))|refine kY ?_ ?_)
    refine .to (j + 1,mid.tail ++ [elt .heap l j]) ⟨by dsimp only;omega,by dsimp only;omega,by dsimp only;rw [hKn];simp;omega,by simp⟩ (by dsimp only;omega) ?_
    have hrow : R.set K.length (elt .heap R j) = de cell (l.take (j + 1)) ++ ((mid.tail ++ [elt .heap l j]) ++ l.drop (j + 1)):=by
     rw [hRe,← hR,hKn,aY (t:=.heap) hlt,List.set_append_right _ _ (by omega),Nat.sub_self]
     cases mid with
     | nil=>simp at h4
     | cons m mid=>simp
    have hrl : (de cell (l.take (j + 1)) ++ ((mid.tail ++ [elt .heap l j]) ++ l.drop (j + 1))).length = l.length:=by rw [← hrow,List.length_set,hRl]
    rw [List.append_nil] at hHn
    conv=>whnf
    repeat' (first|exact trivial|((first|(refine ⟨fun hb=>?_,fun hb=>?_⟩<;>(try simp only [nrm] at hb)<;>try exact kZ hb)|refine kV ?_)<;>(conv=>whnf))|refine kY ?_ ?_)
    ·simp only [Int.toNat_natCast,Nat.add_zero];exact (aC (by rw [List.length_set,hRl])).trans hrow
    ·refine congrArg (Value.int .i64) ?_;dsimp only;rw [hKn];simp
    ·show H.length = (c7 cell (l.take (j + 1))).length;rw [hHn]
    ·show List.take _ _ = c7 cell (l.take (j + 1));rw [hHn];exact List.take_length
  ·obtain rfl : j = l.length:=by omega
   have hKl:=s5 (cell:=cell) (Nat.le_refl l.length)
   rw [List.take_length,List.drop_length] at *
   generalize de cell l = K at *
   generalize c7 cell l = H at *
   conv=>whnf
   repeat' (first|exact trivial|((first|(refine ⟨fun hb=>?_,fun hb=>?_⟩<;>(try simp only [nrm] at hb)<;>try exact kZ hb)|refine kV ?_)<;>(conv=>whnf))|refine kY ?_ ?_)
   all_goals (try simp only [Int.toNat_natCast,Nat.add_zero,Int.sub_zero])
   ·exact j9 _ _ _ (by simp)
   ·rw [mR _ _ _ (by simp)];exact List.take_left' rfl
   ·exact List.take_length
theorem ws {p : Nat → Prop} (hd : ∀ k,p k ∨ ¬ p k) : ∀ n : Nat,(∀ k < n,¬ p k) ∨ ∃ i < n,p i ∧ ∀ k < i,¬ p k
 | 0=>.inl (by omega)
 | n + 1=>by
  rcases ws hd n with h|⟨i,hi,h1,h2⟩
  ·rcases hd n with hp|hp
   ·exact .inr ⟨n,by omega,hp,h⟩
   ·left
    intro k hk
    by_cases e : k = n
    ·subst e;exact hp
    ·exact h k (by omega)
  ·exact .inr ⟨i,by omega,h1,h2⟩
def cE (c : Chunk) (cell : Int) : Chunk × List aa:=if ai c = true then ({ c with heaps:=de cell c.heaps },c7 cell c.heaps) else (c,[])
theorem HR (c : Chunk) (cell : Int) (hc : OkC c) (hf : fH c) : Api Tryz.prog 134 [bq c,i64 cell] (.tup [bq (cE c cell).1,.vec .slot (cE c cell).2]):=by
 have hrt:=gp c hc
 have hh:=hf.heaps
 cases hR : ai c with
 | false =>
  rw [hR] at hrt
  have hs : cE c cell = (c,[]):=by unfold cE;rw [if_neg (by rw [hR];simp)]
  rw [hs]
  refine aF Tryz.func134 18 ?_
  conv=>whnf
  repeat' (first|exact trivial|((first|refine kL ?_|(refine ⟨fun hb=>?_,fun hb=>?_⟩<;>(try simp only [nrm] at hb)<;>try exact kZ hb)|(refine isE 190 ?_;refine kE (aN c hf) [(390001,150001),(390003,150003),(390005,150005)] rfl ?_)|(refine isD 190 ?_;refine kF (aN c hf) [(390001,150001),(390003,150003),(390005,150005)] rfl ?_)|refine kV ?_)<;>(conv=>whnf))|refine kY ?_ ?_)
  all_goals (simp;done)
 | true =>
  rw [hR] at hrt
  have hs : cE c cell = ({ c with heaps:=de cell c.heaps },c7 cell c.heaps):=by unfold cE;rw [if_pos hR]
  rw [hs]
  rcases ws (p:=fun k=>(elt .heap c.heaps k).cell = cell) (fun k=>Classical.em _) c.heaps.length with hm|⟨i,hi,h1,h2⟩
  ·obtain ⟨e1,e2⟩:=wq hm
   rw [e1,e2]
   refine aF Tryz.func134 18 ?_
   conv=>whnf
   repeat' (first|exact trivial|((first|refine kL ?_|(refine ⟨fun hb=>?_,fun hb=>?_⟩<;>(try simp only [nrm] at hb)<;>try exact kZ hb)|(refine isE 190 ?_;refine kE (aN c hf) [(390001,150001),(390003,150003),(390005,150005)] rfl ?_)|(refine isD 190 ?_;refine kF (aN c hf) [(390001,150001),(390003,150003),(390005,150005)] rfl ?_)|(refine isE 205 ?_;refine kE (zF c.heaps cell (by omega) hm) [(1,150003),(0,6),(2,14)] rfl ?_)|(refine isD 205 ?_;refine kF (zF c.heaps cell (by omega) hm) [(1,150003),(0,6),(2,14)] rfl ?_)|refine kV ?_)<;>(conv=>whnf))|refine kY ?_ ?_)
   all_goals (simp;done)
  ·have h32 : c.heaps.length ≤ 4000000000000:=by have:=fJ hR;omega
   have hk:=s5 (cell:=cell) (Nat.le_refl c.heaps.length)
   rw [List.take_length] at hk
   refine aF Tryz.func134 18 ?_
   conv=>whnf
   repeat' (first|exact trivial|((first|refine kL ?_|(refine ⟨fun hb=>?_,fun hb=>?_⟩<;>(try simp only [nrm] at hb)<;>try exact kZ hb)|(refine isE 190 ?_;refine kE (aN c hf) [(390001,150001),(390003,150003),(390005,150005)] rfl ?_)|(refine isD 190 ?_;refine kF (aN c hf) [(390001,150001),(390003,150003),(390005,150005)] rfl ?_)|(refine isE 205 ?_;refine kE (zG c.heaps cell i h32 hi h2 h1) [(1,150003),(0,6),(2,14),(390001,150007)] rfl ?_)|(refine isD 205 ?_;refine kF (zG c.heaps cell i h32 hi h2 h1) [(1,150003),(0,6),(2,14),(390001,150007)] rfl ?_)|refine kV ?_)<;>(conv=>whnf))|refine kY ?_ ?_)
   all_goals (first|(simp;done)|skip)
open Go Go.RowKit Eng
def cnt (k : Int) (s : aa) : Int:=if ¬ k = 0 ∧ s.item = k then max s.n 0 else 0
def ac : List aa → Int → Int
 | [],_=>0
 | s :: r,k=>cnt k s + ac r k
theorem cu (a b : List aa) (k : Int) : ac (a ++ b) k = ac a k + ac b k:=by
 induction a with
 | nil=>simp [ac]
 | cons s r ih=>simp only [List.cons_append,ac,ih];omega
theorem KI (k : Int) (s : aa) (h : s.n ≤ 16) : 0 ≤ cnt k s ∧ cnt k s ≤ 16:=by unfold cnt;split<;>omega
theorem wt {l : List aa} (k : Int) (h : ∀ s ∈ l,s.n ≤ 16) : 0 ≤ ac l k ∧ ac l k ≤ 16 * l.length:=by
 induction l with
 | nil=>simp [ac]
 | cons s r ih =>
  have:=ih fun x hx=>h x (by simp [hx])
  have:=KI k s (h s (by simp))
  simp only [ac,List.length_cons];omega
theorem AS {l : List aa} {k : Nat} (i : Int) (h : k < l.length) : ac (l.take (k + 1)) i = ac (l.take k) i + cnt i (elt .slot l k):=by
 have:=ar .slot l k h
 rw [List.take_add_one,this,cu]
 simp [ac]
def sel (k i x : Int) : Int:=if ¬ k = 0 ∧ i = k then x else 0
theorem AU {may : aa → Bool} {i size k : Int} {p : List aa × Int} {s : aa} (h : may s = true → 0 ≤ s.n ∧ cnt k s = sel k i s.n) :
  ac (cZ may i size p s).1 k + sel k i (cZ may i size p s).2 = ac p.1 k + cnt k s + sel k i p.2:=by
 unfold cZ
 split
 ·rename_i hc
  obtain ⟨h1,h2⟩:=h hc.1
  rw [cu]
  simp only [ac,h2]
  have h3:=hc.2
  generalize min (size - s.n) p.2 = m at *
  have : cnt k ⟨i,s.n + m⟩ = sel k i (s.n + m):=by
   unfold cnt sel
   split
   ·simp only;omega
   ·rfl
  rw [this]
  unfold sel
  split<;>omega
 ·rw [cu];simp only [ac];omega
theorem oX {may : aa → Bool} {i size k : Int} : ∀ (l : List aa) (p : List aa × Int),(∀ s ∈ l,may s = true → 0 ≤ s.n ∧ cnt k s = sel k i s.n) →
  ac (l.foldl (cZ may i size) p).1 k + sel k i (l.foldl (cZ may i size) p).2 = ac p.1 k + ac l k + sel k i p.2
 | [],p,_=>by simp [ac]
 | s :: r,p,h=>by
  rw [List.foldl_cons,oX r _ fun x hx=>h x (by simp [hx]),]
  have:=AU (size:=size) (p:=p) (h s (by simp))
  simp only [ac];omega
theorem bM {s : aa} : bC s = false ↔ (s.item = 0 ∧ s.n = 0) ∨ (1 ≤ s.n ∧ s.n ≤ ak s.item):=by
 simp only [bC,Bool.and_eq_false_iff,Bool.or_eq_false_iff,Bool.not_eq_false',Bool.and_eq_true,beq_iff_eq,decide_eq_false_iff_not]
 omega
theorem dn {l : List aa} : an l = true ↔ ∀ s ∈ l,bC s = false:=by
 unfold an
 simp
theorem vk {may : aa → Bool} {i : Int} : ∀ (l : List aa) (p : List aa × Int),(∀ s ∈ l,bC s = false) → (∀ s ∈ p.1,bC s = false) → ∀ s ∈ (l.foldl (cZ may i (ak i)) p).1,bC s = false
 | [],p,_,hp=>hp
 | s :: r,p,hl,hp=>by
  rw [List.foldl_cons]
  refine vk r _ (fun x hx=>hl x (by simp [hx])) fun x hx=>?_
  unfold cZ at hx
  split at hx
  ·rename_i hc
   rcases List.mem_append.1 hx with hx|hx
   ·exact hp x hx
   ·rw [List.mem_singleton] at hx;subst hx
    have:=bM.1 (hl s (by simp))
    have:=hc.2
    rw [bM];simp only;omega
  ·rcases List.mem_append.1 hx with hx|hx
   ·exact hp x hx
   ·rw [List.mem_singleton] at hx;subst hx;exact hl x (by simp)
theorem fB {l : List aa} {i n : Int} (h : an l = true) : an (bk l i n).1 = true:=by
 unfold bk
 (repeat' split)
 ·exact h
 ·exact h
 ·rw [dn] at h ⊢
  exact vk _ _ (vk _ _ h (by simp)) (by simp)
theorem eT {l : List aa} {i n : Int} (h0 : 0 ≤ n) : 0 ≤ (bk l i n).2 ∧ (bk l i n).2 ≤ n:=by
 unfold bk
 split
 ·simp only;omega
 ·split
  ·simp only;omega
  ·rename_i hc
   have hb : an l = true:=by cases hb : an l with|true=>rfl|false=>exact absurd (.inr hb) hc
   have h1:=lJ (may:=bO i) (i:=i) (l:=l) (n:=n) (dG i).2 h0 (bU hb)
   have h2:=lJ (may:=dv) (i:=i) (l:=(bP (bO i) i (ak i) l n).1) (n:=(bP (bO i) i (ak i) l n).2) (dG i).2 h1.2.1 h1.1
   omega
theorem HS {i k : Int} {s : aa} (h : 0 ≤ s.n) (hm : bO i s = true) : 0 ≤ s.n ∧ cnt k s = sel k i s.n:=by
 have : s.item = i:=by simpa [bO] using hm
 refine ⟨h,?_⟩
 unfold cnt sel
 subst this
 split<;>omega
theorem HT {i k : Int} {s : aa} (hm : dv s = true) : 0 ≤ s.n ∧ cnt k s = sel k i s.n:=by
 have : s.n = 0:=by simpa [dv] using hm
 refine ⟨by omega,?_⟩
 unfold cnt sel
 rw [this]
 (repeat' split)<;>rfl
theorem il {l : List aa} {i n : Int} (h0 : 0 ≤ n) (k : Int) : ac (bk l i n).1 k + sel k i (bk l i n).2 = ac l k + sel k i n:=by
 unfold bk
 split
 ·have : n = 0:=by omega
  subst this;rfl
 ·split
  ·rfl
  ·rename_i hc
   have hb : an l = true:=by cases hb : an l with|true=>rfl|false=>exact absurd (.inr hb) hc
   have hs:=bU hb
   have h1:=lJ (may:=bO i) (i:=i) (l:=l) (n:=n) (dG i).2 h0 hs
   have e1:=oX (may:=bO i) (i:=i) (size:=ak i) (k:=k) l ([],n) fun s hs' hm=>HS (hs s hs').1 hm
   have e2:=oX (may:=dv) (i:=i) (size:=ak i) (k:=k) (bP (bO i) i (ak i) l n).1 ([],(bP (bO i) i (ak i) l n).2) fun s hs' hm=>HT hm
   change ac (bP (bO i) i (ak i) l n).1 k + sel k i (bP (bO i) i (ak i) l n).2 = _ at e1
   change ac (bP dv i (ak i) (bP (bO i) i (ak i) l n).1 (bP (bO i) i (ak i) l n).2).1 k + sel k i (bP dv i (ak i) (bP (bO i) i (ak i) l n).1 (bP (bO i) i (ak i) l n).2).2 = _ at e2
   simp only [ac] at e1 e2
   omega
theorem wu : ∀ (m l out : List aa),eB m l = some out → out.length = l.length
 | [],l,out,h=>by simp [eB] at h;rw [h]
 | s :: r,l,out,h=>by
  simp only [eB] at h
  split at h
  ·cases h
  ·rw [wu r _ out h,da]
theorem rX : ∀ (m l out : List aa),an l = true → eB m l = some out → an out = true
 | [],l,out,hb,h=>by simp [eB] at h;rw [← h];exact hb
 | s :: r,l,out,hb,h=>by
  simp only [eB] at h
  split at h
  ·cases h
  ·exact rX r _ out (fB hb) h
theorem rY (k : Int) : ∀ (m l out : List aa),gz m → eB m l = some out → ac out k = ac l k + ac m k
 | [],l,out,_,h=>by simp [eB] at h;rw [h];simp [ac]
 | s :: r,l,out,hm,h=>by
  simp only [eB] at h
  split at h
  ·cases h
  ·rename_i hp
   have hs:=hm s (by simp)
   have e:=rY k r _ out (fun x hx=>hm x (by simp [hx])) h
   have e2:=il (l:=l) (i:=s.item) hs.1 k
   have h3:=eT (l:=l) (i:=s.item) hs.1
   have h4 : (bk l s.item s.n).2 = 0:=by omega
   rw [h4] at e2
   simp only [ac]
   have h5 : cnt k s = sel k s.item s.n:=by unfold cnt sel;split<;>omega
   have h6 : sel k s.item 0 = 0:=by unfold sel;split<;>rfl
   omega
theorem Ju {l m : List aa} (h : (dY l m).2 = 0) : an l = true ∧ an m = true ∧ eB m l = some (dY l m).1:=by
 unfold dY at h ⊢
 split at h
 ·cases h
 ·rename_i hc
  rw [if_neg hc]
  split at h
  ·rename_i out ho
   refine ⟨?_,?_,?_⟩
   ·cases hb : an l with|true=>rfl|false=>exact absurd (.inl hb) hc
   ·cases hb : an m with|true=>rfl|false=>exact absurd (.inr hb) hc
   ·rw [ho]
  ·cases h
theorem oY {l m : List aa} (h : (dY l m).2 = 0) : (dY l m).1.length = l.length ∧ an (dY l m).1 = true ∧ ∀ k,ac (dY l m).1 k = ac l k + ac m k:=by
 obtain ⟨h1,h2,h3⟩:=Ju h
 exact ⟨wu _ _ _ h3,rX _ _ _ h1 h3,fun k=>rY k _ _ _ (bU h2) h3⟩
theorem FP {l : List aa} {a : Nat} (ha : a < l.length) (x : aa) (k : Int) : ac (l.set a x) k + cnt k (elt .slot l a) = ac l k + cnt k x:=by
 have h1 : l = l.take a ++ elt .slot l a :: l.drop (a + 1):=by rw [← aY (t:=.slot) ha,List.take_append_drop]
 have h2 : l.set a x = l.take a ++ x :: l.drop (a + 1):=List.set_eq_take_append_cons_drop.trans (by rw [if_pos ha])
 rw [h2]
 conv=>rhs;rw [h1]
 rw [cu,cu]
 simp only [ac];omega
theorem lw {l : List aa} {a : Nat} {n : Int} (hb : an l = true) (ha : a < l.length) (hn : 1 ≤ n) (hn2 : n ≤ (elt .slot l a).n) (k : Int) :
  ac (l.set a (d7 (elt .slot l a) n)) k + sel k (elt .slot l a).item n = ac l k:=by
 have h:=FP ha (d7 (elt .slot l a) n) k
 have : cnt k (elt .slot l a) = cnt k (d7 (elt .slot l a) n) + sel k (elt .slot l a).item n:=by
  unfold d7 cnt sel
  split
  ·(repeat' split)<;>(try simp only at *)<;>omega
  ·(repeat' split)<;>(try simp only at *)<;>omega
 omega
theorem im {l : List aa} {a : Nat} {n : Int} (hb : an l = true) (ha : a < l.length) (hn : 1 ≤ n) (hn2 : n ≤ (elt .slot l a).n) : an (l.set a (d7 (elt .slot l a) n)) = true:=by
 have hs:=bM.1 (dn.1 hb _ (ao (t:=.slot) ha))
 rw [dn] at hb ⊢
 intro x hx
 rcases List.mem_or_eq_of_mem_set hx with hx|rfl
 ·exact hb x hx
 ·rw [bM];unfold d7;split
  ·exact .inl ⟨rfl,rfl⟩
  ·right;simp only;omega
theorem wv (l : List (El .slot)) (i : Int) (h : ∀ s ∈ l,s.n ≤ 16) (hl : l.length ≤ 100000000000000000) : Api Tryz.prog 78 [.vec .slot l,.lit (.int .u8 i)] (i64 (ac l i)):=by
 refine aF Tryz.func78 27 ?_
 conv=>whnf
 refine ap.loopS ah (σ:=Nat) [1,5,8,9,10] (fun k=>[.lit (.int .u8 i),i64 (ac (l.take k) i),.vec .slot l,i64 l.length,i64 k]) (fun _=>[]) (fun k=>k ≤ l.length) (fun k=>l.length - k) 0 (by omega) ?_ ?_
 ·exact fD0
 ·intro k hk
  by_cases hlt : k < l.length
  ·have hb1:=wt i (fun s hs=>h s (List.mem_of_mem_take hs) : ∀ s ∈ l.take k,s.n ≤ 16)
   rw [List.length_take] at hb1
   have hb2:=h _ (ao (t:=.slot) hlt)
   have hb3 : (elt .slot l (k : Int).toNat).n = (elt .slot l k).n:=rfl
   have hN:=AS i hlt
   have hN2 : cnt i (elt .slot l k) = if ¬ i = 0 ∧ (elt .slot l k).item = i then max (elt .slot l k).n 0 else 0:=rfl
   conv=>whnf
   repeat' (first|exact trivial|((first|(refine ⟨fun hb=>?_,fun hb=>?_⟩<;>(try simp only [nrm] at hb)<;>try exact kZ hb)|refine kV ?_)<;>(conv=>whnf))|refine kY ?_ ?_)
   all_goals
    refine .to (k + 1) hlt (by omega) ?_
    conv=>whnf
    repeat' (first|exact trivial|((first|(refine ⟨fun hb=>?_,fun hb=>?_⟩<;>(try simp only [nrm] at hb)<;>try exact kZ hb)|refine kV ?_)<;>(conv=>whnf))|refine kY ?_ ?_)
   all_goals trace_state
  ·obtain rfl : k = l.length:=by omega
   conv=>whnf
   repeat' (first|exact trivial|((first|(refine ⟨fun hb=>?_,fun hb=>?_⟩<;>(try simp only [nrm] at hb)<;>try exact kZ hb)|refine kV ?_)<;>(conv=>whnf))|refine kY ?_ ?_)
   all_goals rw [List.take_length]
open Go Go.RowKit Eng
theorem ww (p : Player) (hp : OkP p) : Api Tryz.prog 259 [aw p] (bol (bV p)):=by
 have h:=ml (f_ w16 p Kq hp) (args':=[.agg [i64 16,.lit (.int .u64 0),i64 0,.lit (.slice none 0 0),.lit (.slice none 0 0)],aw p]) (.cons (Le.agg (.cons (Le.refl _) (.cons (Le.refl _) (.cons (Le.refl _) (.cons (Le.nil _) (.cons (Le.nil _) .nil)))))) (.cons (Le.refl _) .nil))
 rw [Kr] at h
 generalize (am w16 p).1 = W at h
 cases hM : bV p
 all_goals
  rw [hM] at h
  refine aF Tryz.func259 12 ?_
  conv=>whnf
  repeat' (first|exact trivial|((first|(refine ⟨fun hb=>?_,fun hb=>?_⟩<;>(try simp only [nrm] at hb)<;>try exact kZ hb)|refine kV ?_)<;>(conv=>whnf))|refine kY ?_ ?_)
def fO (p q : Player) : Bool:=!(decide (p.id = q.id)) && (bV p && bV q)
theorem s6 (p q : Player) (hp : OkP p) (hq : OkP q) : Api Tryz.prog 210 [aw p,aw q] (bol (fO p q)):=by
 have h1:=ww p hp
 have h2:=ww q hq
 unfold fO
 by_cases he : p.id = q.id
 ·rw [decide_eq_true he]
  refine aF Tryz.func210 19 ?_
  exact fD0
 ·rw [decide_eq_false he]
  cases hP : bV p
  all_goals
   rw [hP] at h1
   cases hQ : bV q
   all_goals
    rw [hQ] at h2
    refine aF Tryz.func210 19 ?_
    conv=>whnf
    repeat' (first|exact trivial|((first|(refine ⟨fun hb=>?_,fun hb=>?_⟩<;>(try simp only [nrm] at hb)<;>try exact kZ hb)|refine kV ?_)<;>(conv=>whnf))|refine kY ?_ ?_)
def fC (q : Player) (id : Int) : Player:={ q with agrees:=q.agrees && !(decide (q.wth = id)) }
theorem wx (q : Player) (id : Int) : Api Tryz.prog 211 [aw q,i64 id] (aw (fC q id)):=by
 unfold fC
 cases hA : q.agrees
 all_goals
  by_cases he : q.wth = id
  all_goals
   refine aF Tryz.func211 13 ?_
   conv=>whnf
   repeat' (first|exact trivial|((first|(refine ⟨fun hb=>?_,fun hb=>?_⟩<;>(try simp only [nrm] at hb)<;>try exact kZ hb)|refine kV ?_)<;>(conv=>whnf))|refine kY ?_ ?_)
   all_goals (refine congrArg Value.bool ?_;simp_all)
def oZ (p : Player) (l : List aa) : Player:={ p with bag:=l,offer:=[],wth:=-1,agrees:=false }
theorem s7 (p : Player) (l : List (El .slot)) : Api Tryz.prog 213 [aw p,.vec .slot l] (aw (oZ p l)):=by
 refine aF Tryz.func213 9 ?_
 exact fD0
def ce : List aa:=List.replicate 8 ⟨0,0⟩
def cB (p q : Player) (a n : Int) : Player × Player × Int:=
 if fO p q = false then (p,q,110) else if ¬ p.wth = -1 ∧ ¬ p.wth = q.id then (p,q,108)
 else if ¬ (aj p.bag a n).2.2 = 0 then (p,q,(aj p.bag a n).2.2)
 else if 0 < (bk (if p.wth = -1 then ce else p.offer) (aj p.bag a n).2.1.item (aj p.bag a n).2.1.n).2 then (p,q,104)
 else ({ p with bag:=(aj p.bag a n).1,offer:=(bk (if p.wth = -1 then ce else p.offer) (aj p.bag a n).2.1.item (aj p.bag a n).2.1.n).1,wth:=q.id,agrees:=false },fC q p.id,0)
theorem fK {l : List aa} {a n : Int} (hl : ∀ s ∈ l,aQ s) : aQ (aj l a n).2.1 ∧ ∀ s ∈ (aj l a n).1,aQ s:=by
 have hz : aQ ⟨0,0⟩:=⟨by decide,by decide⟩
 unfold aj
 split
 ·exact ⟨hz,hl⟩
 ·rename_i h
  split
  ·exact ⟨hz,hl⟩
  ·split
   ·exact ⟨hz,hl⟩
   ·have hm:=hl _ (ao (t:=.slot) (l:=l) (i:=a.toNat) (by omega))
    refine ⟨hm,fun s hs=>?_⟩
    rcases List.mem_or_eq_of_mem_set hs with hs|rfl
    ·exact hl s hs
    ·unfold d7;split
     ·exact hz
     ·exact hm
theorem fm {l : List aa} {a n : Int} (h : (aj l a n).2.2 = 0) : (aj l a n).2.1.n = n ∧ 1 ≤ n ∧ n ≤ 16 ∧ an l = true ∧ 0 ≤ a ∧ a < l.length ∧ n ≤ (elt .slot l a.toNat).n ∧ aj l a n = (l.set a.toNat (d7 (elt .slot l a.toNat) n),⟨(elt .slot l a.toNat).item,n⟩,0):=by
 unfold aj at h ⊢
 split at h
 ·cases h
 ·rename_i h1
  split at h
  ·cases h
  ·rename_i h2
   split at h
   ·cases h
   ·rename_i h3
    have hb : an l = true:=by cases hb : an l with|true=>rfl|false=>exact absurd (.inr (.inr hb)) h1
    have hsm:=bU hb _ (ao (t:=.slot) (l:=l) (i:=a.toNat) (by omega))
    rw [if_neg h1,if_neg h2,if_neg h3]
    exact ⟨rfl,by omega,by omega,hb,by omega,by omega,by omega,rfl⟩
theorem g9 (l : List aa) (a n : Int) : (aj l a n).1.length = l.length:=by
 unfold aj
 (repeat' split)<;>simp
theorem FQ (p q : Player) (a n : Int) (hp : OkP p) (hq : OkP q) : Api Tryz.prog 142 [aw p,aw q,i64 a,i64 n] (.tup [aw (cB p q a n).1,aw (cB p q a n).2.1,i64 (cB p q a n).2.2]):=by
 have h1:=iW p hp
 have h2:=iW q hq
 have h3:=s6 p q hp hq
 have h4:=om p.bag a n (by have:=hp.nb;omega) hp.bag
 have h5:=lI 8 (by omega) (by omega)
 change Api _ _ _ (.vec .slot ce) at h5
 have hnb : ce.length = 8:=rfl
 have hnk : ∀ s ∈ ce,aQ s:=by intro s hs;rw [(List.mem_replicate.1 hs).2];exact ⟨by decide,by decide⟩
 have hto:=fK (a:=a) (n:=n) hp.bag
 have htn:=fm (l:=p.bag) (a:=a) (n:=n)
 have h6:=wx q p.id
 unfold cB
 cases hD : fO p q with
 | false =>
  rw [if_pos rfl]
  rw [hD] at h3
  refine aF Tryz.func142 82 ?_
  exact fD0
 | true =>
  rw [if_neg (by simp)]
  rw [hD] at h3
  by_cases hw : ¬ p.wth = -1 ∧ ¬ p.wth = q.id
  ·rw [if_pos hw]
   refine aF Tryz.func142 82 ?_
   exact fD0
  ·rw [if_neg hw]
   by_cases hE : (aj p.bag a n).2.2 = 0
   ·rw [if_neg (by simpa using hE)]
    obtain ⟨hn1,hn2,hn3,_⟩:=htn hE
    by_cases hm : p.wth = -1
    ·rw [if_pos hm]
     have h7:=ig ce (aj p.bag a n).2.1.item (aj p.bag a n).2.1.n (by omega) hnk hto.1.1 hto.1.2 (by omega)
     rw [hE] at h4
     generalize bk ce (aj p.bag a n).2.1.item (aj p.bag a n).2.1.n = R at *
     generalize aj p.bag a n = T at *
     generalize ce = NB at *
     obtain ⟨R,r⟩:=R
     obtain ⟨T1,T2,T3⟩:=T
     dsimp only at *
     by_cases hr : 0 < r
     ·rw [if_pos hr]
      refine aF Tryz.func142 82 ?_
      exact fD0
     ·rw [if_neg hr]
      refine aF Tryz.func142 82 ?_
      exact fD0
    ·rw [if_neg hm]
     have h7:=ig p.offer (aj p.bag a n).2.1.item (aj p.bag a n).2.1.n (by have:=hp.no;omega) hp.offer hto.1.1 hto.1.2 (by omega)
     rw [hE] at h4
     generalize bk p.offer (aj p.bag a n).2.1.item (aj p.bag a n).2.1.n = R at *
     generalize aj p.bag a n = T at *
     obtain ⟨R,r⟩:=R
     obtain ⟨T1,T2,T3⟩:=T
     dsimp only at *
     by_cases hr : 0 < r
     ·rw [if_pos hr]
      refine aF Tryz.func142 82 ?_
      exact fD0
     ·rw [if_neg hr]
      refine aF Tryz.func142 82 ?_
      exact fD0
   ·rw [if_pos hE]
    generalize aj p.bag a n = T at *
    obtain ⟨T1,T2,T3⟩:=T
    dsimp only at *
    refine aF Tryz.func142 82 ?_
    exact fD0
def bo (p q : Player) : Player × Player × Bool × Int:=
 if fO p q = false then (p,q,false,110) else if ¬ p.wth = q.id ∨ ¬ q.wth = p.id then (p,q,false,108)
 else if q.agrees = false then ({ p with agrees:=true },q,false,0)
 else if ¬ (dY p.bag q.offer).2 = 0 ∨ ¬ (dY q.bag p.offer).2 = 0 then (p,q,false,104)
 else (oZ p (dY p.bag q.offer).1,oZ q (dY q.bag p.offer).1,true,0)
theorem FR (p q : Player) (hp : OkP p) (hq : OkP q) : Api Tryz.prog 143 [aw p,aw q] (.tup [aw (bo p q).1,aw (bo p q).2.1,bol (bo p q).2.2.1,i64 (bo p q).2.2.2]):=by
 have h1:=iW p hp
 have h2:=iW q hq
 have h3:=s6 p q hp hq
 have h4:=u7 p.bag q.offer (by have:=hp.nb;omega) hp.bag (by have:=hq.no;omega) hq.offer
 have h5:=u7 q.bag p.offer (by have:=hq.nb;omega) hq.bag (by have:=hp.no;omega) hp.offer
 have h6:=s7 p
 have h7:=s7 q
 unfold bo
 cases hD : fO p q with
 | false =>
  rw [if_pos rfl]
  rw [hD] at h3
  refine aF Tryz.func143 73 ?_
  exact fD0
 | true =>
  rw [if_neg (by simp)]
  rw [hD] at h3
  by_cases hw : ¬ p.wth = q.id ∨ ¬ q.wth = p.id
  ·rw [if_pos hw]
   refine aF Tryz.func143 73 ?_
   exact fD0
  ·rw [if_neg hw]
   cases hA : q.agrees with
   | false =>
    rw [if_pos rfl]
    refine aF Tryz.func143 73 ?_
    exact fD0
   | true =>
    rw [if_neg (by simp)]
    generalize dY p.bag q.offer = A at *
    generalize dY q.bag p.offer = B at *
    obtain ⟨A,x⟩:=A
    obtain ⟨B,y⟩:=B
    dsimp only at *
    by_cases hx : ¬ x = 0 ∨ ¬ y = 0
    ·rw [if_pos hx]
     refine aF Tryz.func143 73 ?_
     exact fD0
    ·rw [if_neg hx]
     refine aF Tryz.func143 73 ?_
     exact fD2 (h6 _) (h7 _)
def b6 (p q : Player) : Player × Player × Int:=
 if fO p q = false then (p,q,110) else if ¬ p.wth = q.id then (p,q,108)
 else if ¬ (dY p.bag p.offer).2 = 0 then (p,q,104)
 else (oZ p (dY p.bag p.offer).1,fC q p.id,0)
theorem DF (p q : Player) (hp : OkP p) (hq : OkP q) : Api Tryz.prog 144 [aw p,aw q] (.tup [aw (b6 p q).1,aw (b6 p q).2.1,i64 (b6 p q).2.2]):=by
 have h1:=iW p hp
 have h2:=iW q hq
 have h3:=s6 p q hp hq
 have h4:=u7 p.bag p.offer (by have:=hp.nb;omega) hp.bag (by have:=hp.no;omega) hp.offer
 have h6:=s7 p
 have h7:=wx q p.id
 unfold b6
 cases hD : fO p q with
 | false =>
  rw [if_pos rfl]
  rw [hD] at h3
  refine aF Tryz.func144 45 ?_
  exact fD0
 | true =>
  rw [if_neg (by simp)]
  rw [hD] at h3
  by_cases hw : ¬ p.wth = q.id
  ·rw [if_pos hw]
   refine aF Tryz.func144 45 ?_
   exact fD0
  ·rw [if_neg hw]
   generalize dY p.bag p.offer = A at *
   obtain ⟨A,x⟩:=A
   dsimp only at *
   by_cases hx : ¬ x = 0
   ·rw [if_pos hx]
    refine aF Tryz.func144 45 ?_
    exact fD0
   ·rw [if_neg hx]
    refine aF Tryz.func144 45 ?_
    exact fD1 (h6 _)
open Go Go.RowKit Eng
def LL (p q : Player) : Nat:=p.bag.length + p.offer.length + q.bag.length + q.offer.length
def Ij (p q : Player) : Bool:=decide (LL p q ≤ 300) && (!(decide (p.id = q.id)) && (bV p && bV q))
def rk (p q : Player) (i : Int) : Int:=ac p.bag i + ac p.offer i + ac q.bag i + ac q.offer i
theorem eJ {p : Player} : bV p = true ↔ 0 ≤ p.id ∧ p.id ≤ 1073741824 ∧ p.bag.length = 8 ∧ an p.bag = true ∧ av 16 p.x p.y = true ∧
  ((p.wth = -1 ∧ p.offer = [] ∧ p.agrees = false) ∨ (0 ≤ p.wth ∧ p.wth ≤ 1073741824 ∧ ¬ p.wth = p.id ∧ p.offer.length = 8 ∧ an p.offer = true)):=by
 unfold bV a7 jL
 simp only [Bool.and_eq_true,decide_eq_true_eq]
 by_cases hw : p.wth = -1
 ·rw [if_pos hw]
  simp only [Bool.and_eq_true,decide_eq_true_eq,Bool.not_eq_true']
  constructor
  ·rintro ⟨⟨h1,h2,⟨h3,h4⟩,h5,h6⟩,h7⟩
   exact ⟨h1,h2,by omega,h4,h7,.inl ⟨hw,List.eq_nil_of_length_eq_zero (by omega),h6⟩⟩
  ·rintro ⟨h1,h2,h3,h4,h7,h|h⟩
   ·exact ⟨⟨h1,h2,⟨by omega,h4⟩,by rw [h.2.1];rfl,h.2.2⟩,h7⟩
   ·omega
 ·rw [if_neg hw]
  simp only [Bool.and_eq_true,decide_eq_true_eq,Bool.not_eq_true',decide_eq_false_iff_not]
  constructor
  ·rintro ⟨⟨h1,h2,⟨h3,h4⟩,h5,h6,h8,h9,h10⟩,h7⟩
   exact ⟨h1,h2,by omega,h4,h7,.inr ⟨h5,h6,h8,by omega,h10⟩⟩
  ·rintro ⟨h1,h2,h3,h4,h7,h|h⟩
   ·exact absurd h.1 hw
   ·exact ⟨⟨h1,h2,⟨by omega,h4⟩,h.1,h.2.1,h.2.2.1,by omega,h.2.2.2.2⟩,h7⟩
theorem FS {p : Player} (h : bV p = true) : an p.offer = true ∧ p.offer.length ≤ 8:=by
 obtain ⟨_,_,_,_,_,h|h⟩:=eJ.1 h
 ·rw [h.2.1];exact ⟨rfl,by simp⟩
 ·exact ⟨h.2.2.2.2,by omega⟩
theorem wy {q : Player} (id : Int) (h : bV q = true) : bV (fC q id) = true:=by
 rw [eJ] at h ⊢
 simp only [fC]
 obtain ⟨h1,h2,h3,h4,h5,h⟩:=h
 refine ⟨h1,h2,h3,h4,h5,?_⟩
 rcases h with h|h
 ·exact .inl ⟨h.1,h.2.1,by rw [h.2.2];rfl⟩
 ·exact .inr h
theorem rZ {i : Int} (h : 1 ≤ ak i) : 0 ≤ i ∧ i ≤ 255:=by
 unfold ak at h
 (repeat' split at h)<;>omega
theorem aX {l : List aa} (h : an l = true) : ∀ s ∈ l,aQ s:=by
 intro s hs
 rcases bM.1 (dn.1 h s hs) with h|h
 ·exact ⟨by omega,by omega⟩
 ·exact rZ (by omega)
theorem dx {p : Player} (h : bV p = true) : OkP p:=by
 obtain ⟨_,_,h3,h4,_,_⟩:=eJ.1 h
 have h5:=FS h
 exact ⟨aX h4,aX h5.1,by omega,by omega⟩
theorem wz (q : Player) (id : Int) : (fC q id).bag = q.bag ∧ (fC q id).offer = q.offer ∧ (fC q id).id = q.id:=⟨rfl,rfl,rfl⟩
theorem HU : an ce = true:=by decide
theorem r9 (k : Int) : ac ce k = 0:=by
 have : ∀ n : Nat,ac (List.replicate n ⟨0,0⟩) k = 0:=by
  intro n
  induction n with
  | zero=>rfl
  | succ n ih=>rw [List.replicate_succ];simp only [ac,ih,cnt];split<;>rfl
 exact this 8
structure o5 (p q a b : Player) : Prop where
 ma : bV a = true
 mb : bV b = true
 ia : a.id = p.id
 ib : b.id = q.id
 sum : ∀ k,rk a b k = rk p q k
theorem o5.refl {p q : Player} (hp : bV p = true) (hq : bV q = true) : o5 p q p q:=⟨hp,hq,rfl,rfl,fun _=>rfl⟩
theorem iN (k i : Int) : sel k i 0 = 0:=by unfold sel;split<;>rfl
theorem uc {p q : Player} (hp : bV p = true) (hq : bV q = true) (hne : ¬ p.id = q.id) (a n : Int) : o5 p q (cB p q a n).1 (cB p q a n).2.1:=by
 unfold cB
 generalize hO : (if p.wth = -1 then ce else p.offer) = O
 split
 ·exact .refl hp hq
 ·split
  ·exact .refl hp hq
  ·rename_i hw
   split
   ·exact .refl hp hq
   ·rename_i hE
    have hE' : (aj p.bag a n).2.2 = 0:=by simpa using hE
    obtain ⟨n1,n2,n3,n4,n5,n6,n7,n8⟩:=fm hE'
    split
    ·exact .refl hp hq
    ·rename_i hr
     rw [n8] at hr ⊢
     dsimp only at hr ⊢
     have ha : a.toNat < p.bag.length:=by omega
     have hc1:=lw n4 ha n2 n7
     have hb1:=im n4 ha n2 n7
     have hp':=eJ.1 hp
     have hq':=eJ.1 hq
     have hOk : an O = true ∧ O.length = 8 ∧ ∀ k,ac O k = ac p.offer k:=by
      rw [← hO]
      split
      ·rename_i hm
       refine ⟨HU,rfl,fun k=>?_⟩
       rcases hp'.2.2.2.2.2 with h|h
       ·rw [r9,h.2.1];rfl
       ·omega
      ·rename_i hm
       rcases hp'.2.2.2.2.2 with h|h
       ·exact absurd h.1 hm
       ·exact ⟨h.2.2.2.2,h.2.2.2.1,fun _=>rfl⟩
     have hl:=eT (l:=O) (i:=(elt .slot p.bag a.toNat).item) (n:=n) (by omega)
     have hc2:=il (l:=O) (i:=(elt .slot p.bag a.toNat).item) (n:=n) (by omega)
     have hb2:=fB (i:=(elt .slot p.bag a.toNat).item) (n:=n) hOk.1
     have hl2:=da O (elt .slot p.bag a.toNat).item n
     refine ⟨?_,wy _ hq,rfl,rfl,fun k=>?_⟩
     ·rw [eJ]
      dsimp only
      refine ⟨hp'.1,hp'.2.1,by rw [List.length_set];exact hp'.2.2.1,hb1,hp'.2.2.2.2.1,.inr ⟨hq'.1,hq'.2.1,fun e=>hne e.symm,by rw [hl2];exact hOk.2.1,hb2⟩⟩
     ·have e1:=hc1 k
      have e2:=hc2 k
      rw [show (bk O (elt .slot p.bag a.toNat).item n).2 = 0 by omega,iN] at e2
      have e3:=hOk.2.2 k
      simp only [rk,wz]
      omega
theorem s8 {p : Player} (hp : bV p = true) {l : List aa} (h1 : l.length = 8) (h2 : an l = true) : bV (oZ p l) = true:=by
 have h:=eJ.1 hp
 rw [eJ]
 exact ⟨h.1,h.2.1,h1,h2,h.2.2.2.2.1,.inl ⟨rfl,rfl,rfl⟩⟩
theorem ud {p q : Player} (hp : bV p = true) (hq : bV q = true) (hne : ¬ p.id = q.id) : o5 p q (bo p q).1 (bo p q).2.1 ∧
  ((bo p q).2.2.1 = true → (bo p q).1.wth = -1 ∧ (bo p q).2.1.wth = -1 ∧ (bo p q).1.offer = [] ∧ (bo p q).2.1.offer = [] ∧
    ∀ k,ac (bo p q).1.bag k = ac p.bag k + ac q.offer k ∧ ac (bo p q).2.1.bag k = ac q.bag k + ac p.offer k) ∧
  ((bo p q).2.2.1 = false → (bo p q).1.bag = p.bag ∧ (bo p q).2.1.bag = q.bag):=by
 have hp':=eJ.1 hp
 have hq':=eJ.1 hq
 unfold bo
 split
 ·exact ⟨.refl hp hq,by simp,by simp⟩
 ·split
  ·exact ⟨.refl hp hq,by simp,by simp⟩
  ·rename_i hw
   split
   ·refine ⟨⟨?_,hq,rfl,rfl,fun _=>rfl⟩,by simp,by simp⟩
    rw [eJ]
    dsimp only
    refine ⟨hp'.1,hp'.2.1,hp'.2.2.1,hp'.2.2.2.1,hp'.2.2.2.2.1,?_⟩
    rcases hp'.2.2.2.2.2 with h|h
    ·have:=hq'.1;omega
    ·exact .inr h
   ·split
    ·exact ⟨.refl hp hq,by simp,by simp⟩
    ·rename_i hx
     have hx1 : (dY p.bag q.offer).2 = 0:=by omega
     have hx2 : (dY q.bag p.offer).2 = 0:=by omega
     obtain ⟨a1,a2,a3⟩:=oY hx1
     obtain ⟨b1,b2,b3⟩:=oY hx2
     refine ⟨⟨s8 hp (by rw [a1];exact hp'.2.2.1) a2,s8 hq (by rw [b1];exact hq'.2.2.1) b2,rfl,rfl,fun k=>?_⟩,fun _=>⟨rfl,rfl,rfl,rfl,fun k=>⟨a3 k,b3 k⟩⟩,by simp⟩
     simp only [rk,oZ,a3,b3,ac];omega
theorem r_ {p q : Player} (hp : bV p = true) (hq : bV q = true) : o5 p q (b6 p q).1 (b6 p q).2.1:=by
 have hp':=eJ.1 hp
 unfold b6
 split
 ·exact .refl hp hq
 ·split
  ·exact .refl hp hq
  ·split
   ·exact .refl hp hq
   ·rename_i hx
    have hx1 : (dY p.bag p.offer).2 = 0:=by simpa using hx
    obtain ⟨a1,a2,a3⟩:=oY hx1
    refine ⟨s8 hp (by rw [a1];exact hp'.2.2.1) a2,wy _ hq,rfl,rfl,fun k=>?_⟩
    simp only [rk,oZ,a3,ac,wz];omega
def pl (id : Int) (s : aa) : Player:=⟨id,0,0,s :: List.replicate 7 ⟨0,0⟩,-1,[],false⟩
open Go Go.RowKit Eng
def kf : Player:=⟨0,0,0,[],0,[],false⟩
def ag (w : Wld) (id : Int) : Player × Bool:=
 if aO w = false then (kf,false) else match aH pid w.players id with
  | some p=>(p,true)
  | none=>(kf,false)
theorem fL (w : Wld) (id : Int) (hw : OkW w) : Api Tryz.prog 29 [az w,i64 id] (.tup [aw (ag w id).1,bol (ag w id).2]):=by
 have hnp:=hw.np
 have hrt:=dA w hw
 have hsk:=yP w id (by omega)
 cases hR : aO w with
 | false =>
  rw [hR] at hrt
  have hs : ag w id = (kf,false):=by unfold ag;rw [if_pos hR]
  rw [hs]
  refine aF Tryz.func29 25 ?_
  exact fD0
 | true =>
  rw [hR] at hrt
  obtain ⟨hri,_,_,_⟩:=ii hR
  obtain ⟨e1,e2⟩:=vT hri id
  rw [e1,e2] at hsk
  cases hg : aH pid w.players id with
  | none =>
   rw [hg] at hsk
   have hs : ag w id = (kf,false):=by unfold ag;rw [if_neg (by rw [hR];simp),hg]
   rw [hs]
   refine aF Tryz.func29 25 ?_
   exact fD0
  | some p =>
   rw [hg] at hsk
   have hs : ag w id = (p,true):=by unfold ag;rw [if_neg (by rw [hR];simp),hg]
   rw [hs]
   obtain ⟨h1,h2⟩:=pH hri hg
   have h3 : elt .player w.players (lbK pid id w.players) = p:=by
    have:=ar .player w.players _ h1
    rw [h2] at this
    exact (Option.some.inj this).symm
   have hal:=mT p (hw.players p (gq hg).1)
   generalize lbK pid id w.players = at_ at *
   subst h3
   refine aF Tryz.func29 25 ?_
   exact fD0
end Go.Proofs.YtkojlembanldcaaGreat
