/- bytes.Uint, chunk.Bytes. -/
import Derived.Test.YtaecchphjploaaaGreatGd
set_option linter.unusedSimpArgs false
set_option linter.unusedVariables false
set_option maxRecDepth 100000
set_option maxHeartbeats 16000000
namespace Go.Proofs.YtaecchphjploaaaGreat
open Go Go.RowKit Eng
open Go Go.RowKit Eng
theorem rightGo_rises : ∀ (l : List Int) (k : Nat) (bs : List Box),rightGo l k bs = some [] → rises bs ∧ (∀ b ∈ bs,(k : Int) ≤ b.cell ∧ b.cell < k + l.length)
 | [],k,bs,h=>by simp [rightGo] at h;subst h;exact ⟨trivial,by simp⟩
 | i :: r,k,bs,h=>by
  simp only [rightGo] at h
  split at h
  ·split at h
   ·cases bs with
    | nil=>cases h
    | cons b bs =>
     simp only at h
     split at h
     ·rename_i hb
      obtain ⟨h1,h2⟩:=rightGo_rises r (k + 1) bs h
      have hbk : b.cell = k:=by simp only [boxAt,Bool.and_eq_true,beq_iff_eq] at hb;exact hb.1
      refine ⟨⟨fun x hx=>by have:=(h2 x hx).1;omega,h1⟩,fun x hx=>?_⟩
      rcases List.mem_cons.1 hx with rfl|hx
      ·simp only [List.length_cons];omega
      ·have:=h2 x hx;simp only [List.length_cons];omega
     ·cases h
   ·obtain ⟨h1,h2⟩:=rightGo_rises r (k + 1) bs h
    exact ⟨h1,fun x hx=>by have:=h2 x hx;simp only [List.length_cons];omega⟩
  ·cases h
structure RightC (c : Chunk) : Prop where
 head : headB c = true
 go : rightGo c.cells 0 c.boxes = some []
 heaps : c.heaps.any badHeap = false
theorem rightC_of {c : Chunk} (h : rightB c = true) : RightC c:=by
 unfold rightB at h
 simp only [Bool.and_eq_true] at h
 obtain ⟨h1,h2⟩:=h
 split at h2
 ·rename_i hg;exact ⟨h1,hg,by simpa using h2⟩
 ·cases h2
theorem RightC.len {c : Chunk} (h : RightC c) : c.cells.length = 64:=by
 have:=h.head;simp only [headB,Bool.and_eq_true,decide_eq_true_eq] at this;omega
theorem RightC.rises {c : Chunk} (h : RightC c) : rises c.boxes:=(rightGo_rises _ _ _ h.go).1
open Go Go.RowKit Eng
open Go Go.RowKit Eng
def uintF : Nat → Nat → List Int
 | 0,n=>[(n : Int)]
 | f + 1,n=>if n < 128 then [(n : Int)] else ((n % 128 + 128 : Nat) : Int) :: uintF f (n / 128)
def uintL (n : Nat) : List Int:=uintF 9 n
theorem uintF_len (f n : Nat) : (uintF f n).length ≤ f + 1:=by
 induction f generalizing n with
 | zero=>simp [uintF]
 | succ f ih=>simp only [uintF];split<;>simp;have:=ih (n / 128);omega
def eqL (a b : List Int) : Bool:=decide (a = b)
def okU8 (l : List Int) : Prop:=∀ i ∈ l,0 ≤ i ∧ i ≤ 255
theorem byte_inj {a b : Int} (ha : 0 ≤ a ∧ a ≤ 255) (hb : 0 ≤ b ∧ b ≤ 255) (h : UInt8.ofNat a.toNat = UInt8.ofNat b.toNat) : a = b:=by
 have:=congrArg UInt8.toNat h
 simp only [UInt8.toNat_ofNat'] at this
 omega
theorem bytes_inj : ∀ {a b : List Int},okU8 a → okU8 b → (a.map fun n=>UInt8.ofNat n.toNat) = (b.map fun n=>UInt8.ofNat n.toNat) → a = b
 | [],[],_,_,_=>rfl
 | [],_ :: _,_,_,h=>by simp at h
 | _ :: _,[],_,_,h=>by simp at h
 | x :: a,y :: b,ha,hb,h=>by
  simp only [List.map_cons,List.cons.injEq] at h
  rw [byte_inj (ha x (by simp)) (hb y (by simp)) h.1,bytes_inj (fun i hi=>ha i (by simp [hi])) (fun i hi=>hb i (by simp [hi])) h.2]
theorem bytes_loop (bs : ByteArray) : ∀ (k i : Nat) (r : List UInt8),i + k = bs.size → ByteArray.toList.loop bs i r = r.reverse ++ bs.data.toList.drop i:=by
 have hs : bs.size = bs.data.toList.length:=by rw [Array.length_toList];rfl
 intro k
 induction k with
 | zero =>
  intro i r h
  unfold ByteArray.toList.loop
  rw [if_neg (by omega),List.drop_of_length_le (by omega),List.append_nil]
 | succ k ih =>
  intro i r h
  unfold ByteArray.toList.loop
  rw [if_pos (by omega),ih (i + 1) _ (by omega)]
  have hlt : i < bs.data.toList.length:=by omega
  have hg : bs.get! i = bs.data.toList[i]:=by
   show bs.data[i]! = _
   rw [getElem!_pos bs.data i (by rw [← Array.length_toList];exact hlt)];simp
  rw [List.drop_eq_getElem_cons hlt,hg]
  simp only [List.reverse_cons,List.append_assoc,List.singleton_append]
theorem bytes_toList (bs : ByteArray) : bs.toList = bs.data.toList:=by
 unfold ByteArray.toList
 rw [bytes_loop bs bs.size 0 [] (by omega)];simp
theorem strOf_eq {a b : List Int} (ha : okU8 a) (hb : okU8 b) : ((strOfNums a).toList == (strOfNums b).toList) = eqL a b:=by
 unfold eqL
 rw [Bool.eq_iff_iff,beq_iff_eq,decide_eq_true_eq]
 constructor
 ·intro h
  have h2 : (strOfNums a).data.toList = (strOfNums b).data.toList:=by
   rw [← bytes_toList,← bytes_toList,h]
  exact bytes_inj ha hb h2
 ·rintro rfl;rfl
theorem equal_api (a b : List (El .u8)) (ha : okU8 a) (hb : okU8 b) : Api Tryz.prog 34 [.vec .u8 a,.vec .u8 b] (bol (eqL a b)):=by
 refine aF Tryz.func34 8 ?_
 conv=>whnf
 repeat' (first|exact trivial|((first|(refine ⟨fun hb=>?_,fun hb=>?_⟩<;>(try simp only [nrm] at hb)<;>try exact kZ hb)|refine kV ?_)<;>(conv=>whnf))|refine kY ?_ ?_)
 rw [strOf_eq ha hb]
def padA : List Int → Nat → List AV
 | _,0=>[]
 | [],n + 1=>u8 0 :: padA [] n
 | a :: r,n + 1=>u8 a :: padA r n
theorem uint_ev (l : List (El .u8)) (n : Nat) (hn : n < 18446744073709551616) (hl : l.length + 10 ≤ 140737488355328) : Ev1 Tryz.prog 77 [.own .u8 1 0 l.length none,.lit (.int .u64 n)] [(1,.row .u8 l)] (.own .u8 390001 0 (l.length + (uintL n).length) none) [(390001,.row .u8 (l ++ uintL n))]:=by
 refine eF Tryz.func77 26 ?_
 conv=>whnf
 refine Runs.loopS cfg_ok (σ:=List Int × Nat) [0,1,5,6] (fun (bs,r)=>[.own .u8 1 0 l.length none,.lit (.int .u64 r),.ptr 200010 0,i64 bs.length]) (fun (bs,_)=>[(1,.row .u8 l),(200010,.box (padA bs 10))])
  (fun (bs,r)=>bs.length ≤ 9 ∧ bs ++ uintF (9 - bs.length) r = uintL n ∧ r < 2 ^ (64 - 7 * bs.length)) (fun (bs,_)=>10 - bs.length) ([],n) ⟨by simp,rfl,by simpa using hn⟩ ?_ ?_
 ·exact fD0
 ·rintro ⟨bs,r⟩ ⟨h1,h2,h3⟩
  match bs,h1 with
  | [],_ =>
   replace h3 : r < 18446744073709551616:=h3
   have ek : uintF (9 - 0) r = if r < 128 then [(r : Int)] else ((r % 128 + 128 : Nat) : Int) :: uintF 8 (r / 128):=rfl
   have hn1 : r < 128 → uintL n = [] ++ [(r : Int)]:=fun hr=>by rw [← h2];show _ ++ uintF (9 - 0) r = _;rw [ek,if_pos hr]
   have hn2 : ¬ r < 128 → [((r % 128 + 128 : Nat) : Int)] ++ uintF 8 (r / 128) = uintL n:=fun hr=>by rw [← h2];show _ = _ ++ uintF (9 - 0) r;rw [ek,if_neg hr];rfl
   conv=>whnf
   repeat' (first|exact trivial|((first|(refine ⟨fun hb=>?_,fun hb=>?_⟩<;>(try simp only [nrm] at hb)<;>try exact kZ hb)|refine kV ?_)<;>(conv=>whnf))|refine kY ?_ ?_)
   ·refine .to ([((r % 128 + 128 : Nat) : Int)],r / 128) ⟨by simp,hn2 (by omega),by show r / 128 < 144115188075855872;omega⟩ (by simp) ?_
    exact fD0
   all_goals (try rw [hn1 (by omega)])
   ·rfl
   ·rfl
   ·rw [List.take_length];exact List.take_of_length_le (by rw [List.length_append];exact Nat.le_refl _)
  | [a],_ =>
   replace h3 : r < 144115188075855872:=h3
   have ek : uintF (9 - 1) r = if r < 128 then [(r : Int)] else ((r % 128 + 128 : Nat) : Int) :: uintF 7 (r / 128):=rfl
   have hn1 : r < 128 → uintL n = [a] ++ [(r : Int)]:=fun hr=>by rw [← h2];show _ ++ uintF (9 - 1) r = _;rw [ek,if_pos hr]
   have hn2 : ¬ r < 128 → [a,((r % 128 + 128 : Nat) : Int)] ++ uintF 7 (r / 128) = uintL n:=fun hr=>by rw [← h2];show _ = _ ++ uintF (9 - 1) r;rw [ek,if_neg hr];rfl
   conv=>whnf
   repeat' (first|exact trivial|((first|(refine ⟨fun hb=>?_,fun hb=>?_⟩<;>(try simp only [nrm] at hb)<;>try exact kZ hb)|refine kV ?_)<;>(conv=>whnf))|refine kY ?_ ?_)
   ·refine .to ([a,((r % 128 + 128 : Nat) : Int)],r / 128) ⟨by simp,hn2 (by omega),by show r / 128 < 1125899906842624;omega⟩ (by simp) ?_
    exact fD0
   all_goals (try rw [hn1 (by omega)])
   ·rfl
   ·rfl
   ·rw [List.take_length];exact List.take_of_length_le (by rw [List.length_append];exact Nat.le_refl _)
  | [a,b],_ =>
   replace h3 : r < 1125899906842624:=h3
   have ek : uintF (9 - 2) r = if r < 128 then [(r : Int)] else ((r % 128 + 128 : Nat) : Int) :: uintF 6 (r / 128):=rfl
   have hn1 : r < 128 → uintL n = [a,b] ++ [(r : Int)]:=fun hr=>by rw [← h2];show _ ++ uintF (9 - 2) r = _;rw [ek,if_pos hr]
   have hn2 : ¬ r < 128 → [a,b,((r % 128 + 128 : Nat) : Int)] ++ uintF 6 (r / 128) = uintL n:=fun hr=>by rw [← h2];show _ = _ ++ uintF (9 - 2) r;rw [ek,if_neg hr];rfl
   conv=>whnf
   repeat' (first|exact trivial|((first|(refine ⟨fun hb=>?_,fun hb=>?_⟩<;>(try simp only [nrm] at hb)<;>try exact kZ hb)|refine kV ?_)<;>(conv=>whnf))|refine kY ?_ ?_)
   ·refine .to ([a,b,((r % 128 + 128 : Nat) : Int)],r / 128) ⟨by simp,hn2 (by omega),by show r / 128 < 8796093022208;omega⟩ (by simp) ?_
    exact fD0
   all_goals (try rw [hn1 (by omega)])
   ·rfl
   ·rfl
   ·rw [List.take_length];exact List.take_of_length_le (by rw [List.length_append];exact Nat.le_refl _)
  | [a,b,c],_ =>
   replace h3 : r < 8796093022208:=h3
   have ek : uintF (9 - 3) r = if r < 128 then [(r : Int)] else ((r % 128 + 128 : Nat) : Int) :: uintF 5 (r / 128):=rfl
   have hn1 : r < 128 → uintL n = [a,b,c] ++ [(r : Int)]:=fun hr=>by rw [← h2];show _ ++ uintF (9 - 3) r = _;rw [ek,if_pos hr]
   have hn2 : ¬ r < 128 → [a,b,c,((r % 128 + 128 : Nat) : Int)] ++ uintF 5 (r / 128) = uintL n:=fun hr=>by rw [← h2];show _ = _ ++ uintF (9 - 3) r;rw [ek,if_neg hr];rfl
   conv=>whnf
   repeat' (first|exact trivial|((first|(refine ⟨fun hb=>?_,fun hb=>?_⟩<;>(try simp only [nrm] at hb)<;>try exact kZ hb)|refine kV ?_)<;>(conv=>whnf))|refine kY ?_ ?_)
   ·refine .to ([a,b,c,((r % 128 + 128 : Nat) : Int)],r / 128) ⟨by simp,hn2 (by omega),by show r / 128 < 68719476736;omega⟩ (by simp) ?_
    exact fD0
   all_goals (try rw [hn1 (by omega)])
   ·rfl
   ·rfl
   ·rw [List.take_length];exact List.take_of_length_le (by rw [List.length_append];exact Nat.le_refl _)
  | [a,b,c,d],_ =>
   replace h3 : r < 68719476736:=h3
   have ek : uintF (9 - 4) r = if r < 128 then [(r : Int)] else ((r % 128 + 128 : Nat) : Int) :: uintF 4 (r / 128):=rfl
   have hn1 : r < 128 → uintL n = [a,b,c,d] ++ [(r : Int)]:=fun hr=>by rw [← h2];show _ ++ uintF (9 - 4) r = _;rw [ek,if_pos hr]
   have hn2 : ¬ r < 128 → [a,b,c,d,((r % 128 + 128 : Nat) : Int)] ++ uintF 4 (r / 128) = uintL n:=fun hr=>by rw [← h2];show _ = _ ++ uintF (9 - 4) r;rw [ek,if_neg hr];rfl
   conv=>whnf
   repeat' (first|exact trivial|((first|(refine ⟨fun hb=>?_,fun hb=>?_⟩<;>(try simp only [nrm] at hb)<;>try exact kZ hb)|refine kV ?_)<;>(conv=>whnf))|refine kY ?_ ?_)
   ·refine .to ([a,b,c,d,((r % 128 + 128 : Nat) : Int)],r / 128) ⟨by simp,hn2 (by omega),by show r / 128 < 536870912;omega⟩ (by simp) ?_
    exact fD0
   all_goals (try rw [hn1 (by omega)])
   ·rfl
   ·rfl
   ·rw [List.take_length];exact List.take_of_length_le (by rw [List.length_append];exact Nat.le_refl _)
  | [a,b,c,d,e],_ =>
   replace h3 : r < 536870912:=h3
   have ek : uintF (9 - 5) r = if r < 128 then [(r : Int)] else ((r % 128 + 128 : Nat) : Int) :: uintF 3 (r / 128):=rfl
   have hn1 : r < 128 → uintL n = [a,b,c,d,e] ++ [(r : Int)]:=fun hr=>by rw [← h2];show _ ++ uintF (9 - 5) r = _;rw [ek,if_pos hr]
   have hn2 : ¬ r < 128 → [a,b,c,d,e,((r % 128 + 128 : Nat) : Int)] ++ uintF 3 (r / 128) = uintL n:=fun hr=>by rw [← h2];show _ = _ ++ uintF (9 - 5) r;rw [ek,if_neg hr];rfl
   conv=>whnf
   repeat' (first|exact trivial|((first|(refine ⟨fun hb=>?_,fun hb=>?_⟩<;>(try simp only [nrm] at hb)<;>try exact kZ hb)|refine kV ?_)<;>(conv=>whnf))|refine kY ?_ ?_)
   ·refine .to ([a,b,c,d,e,((r % 128 + 128 : Nat) : Int)],r / 128) ⟨by simp,hn2 (by omega),by show r / 128 < 4194304;omega⟩ (by simp) ?_
    exact fD0
   all_goals (try rw [hn1 (by omega)])
   ·rfl
   ·rfl
   ·rw [List.take_length];exact List.take_of_length_le (by rw [List.length_append];exact Nat.le_refl _)
  | [a,b,c,d,e,f],_ =>
   replace h3 : r < 4194304:=h3
   have ek : uintF (9 - 6) r = if r < 128 then [(r : Int)] else ((r % 128 + 128 : Nat) : Int) :: uintF 2 (r / 128):=rfl
   have hn1 : r < 128 → uintL n = [a,b,c,d,e,f] ++ [(r : Int)]:=fun hr=>by rw [← h2];show _ ++ uintF (9 - 6) r = _;rw [ek,if_pos hr]
   have hn2 : ¬ r < 128 → [a,b,c,d,e,f,((r % 128 + 128 : Nat) : Int)] ++ uintF 2 (r / 128) = uintL n:=fun hr=>by rw [← h2];show _ = _ ++ uintF (9 - 6) r;rw [ek,if_neg hr];rfl
   conv=>whnf
   repeat' (first|exact trivial|((first|(refine ⟨fun hb=>?_,fun hb=>?_⟩<;>(try simp only [nrm] at hb)<;>try exact kZ hb)|refine kV ?_)<;>(conv=>whnf))|refine kY ?_ ?_)
   ·refine .to ([a,b,c,d,e,f,((r % 128 + 128 : Nat) : Int)],r / 128) ⟨by simp,hn2 (by omega),by show r / 128 < 32768;omega⟩ (by simp) ?_
    exact fD0
   all_goals (try rw [hn1 (by omega)])
   ·rfl
   ·rfl
   ·rw [List.take_length];exact List.take_of_length_le (by rw [List.length_append];exact Nat.le_refl _)
  | [a,b,c,d,e,f,g],_ =>
   replace h3 : r < 32768:=h3
   have ek : uintF (9 - 7) r = if r < 128 then [(r : Int)] else ((r % 128 + 128 : Nat) : Int) :: uintF 1 (r / 128):=rfl
   have hn1 : r < 128 → uintL n = [a,b,c,d,e,f,g] ++ [(r : Int)]:=fun hr=>by rw [← h2];show _ ++ uintF (9 - 7) r = _;rw [ek,if_pos hr]
   have hn2 : ¬ r < 128 → [a,b,c,d,e,f,g,((r % 128 + 128 : Nat) : Int)] ++ uintF 1 (r / 128) = uintL n:=fun hr=>by rw [← h2];show _ = _ ++ uintF (9 - 7) r;rw [ek,if_neg hr];rfl
   conv=>whnf
   repeat' (first|exact trivial|((first|(refine ⟨fun hb=>?_,fun hb=>?_⟩<;>(try simp only [nrm] at hb)<;>try exact kZ hb)|refine kV ?_)<;>(conv=>whnf))|refine kY ?_ ?_)
   ·refine .to ([a,b,c,d,e,f,g,((r % 128 + 128 : Nat) : Int)],r / 128) ⟨by simp,hn2 (by omega),by show r / 128 < 256;omega⟩ (by simp) ?_
    exact fD0
   all_goals (try rw [hn1 (by omega)])
   ·rfl
   ·rfl
   ·rw [List.take_length];exact List.take_of_length_le (by rw [List.length_append];exact Nat.le_refl _)
  | [a,b,c,d,e,f,g,h],_ =>
   replace h3 : r < 256:=h3
   have ek : uintF (9 - 8) r = if r < 128 then [(r : Int)] else ((r % 128 + 128 : Nat) : Int) :: uintF 0 (r / 128):=rfl
   have hn1 : r < 128 → uintL n = [a,b,c,d,e,f,g,h] ++ [(r : Int)]:=fun hr=>by rw [← h2];show _ ++ uintF (9 - 8) r = _;rw [ek,if_pos hr]
   have hn2 : ¬ r < 128 → [a,b,c,d,e,f,g,h,((r % 128 + 128 : Nat) : Int)] ++ uintF 0 (r / 128) = uintL n:=fun hr=>by rw [← h2];show _ = _ ++ uintF (9 - 8) r;rw [ek,if_neg hr];rfl
   conv=>whnf
   repeat' (first|exact trivial|((first|(refine ⟨fun hb=>?_,fun hb=>?_⟩<;>(try simp only [nrm] at hb)<;>try exact kZ hb)|refine kV ?_)<;>(conv=>whnf))|refine kY ?_ ?_)
   ·refine .to ([a,b,c,d,e,f,g,h,((r % 128 + 128 : Nat) : Int)],r / 128) ⟨by simp,hn2 (by omega),by show r / 128 < 2;omega⟩ (by simp) ?_
    exact fD0
   all_goals (try rw [hn1 (by omega)])
   ·rfl
   ·rfl
   ·rw [List.take_length];exact List.take_of_length_le (by rw [List.length_append];exact Nat.le_refl _)
  | [a,b,c,d,e,f,g,h,i],_ =>
   replace h3 : r < 2:=h3
   have hn1 : r < 128 → uintL n = [a,b,c,d,e,f,g,h,i] ++ [(r : Int)]:=fun _=>h2.symm
   conv=>whnf
   repeat' (first|exact trivial|((first|(refine ⟨fun hb=>?_,fun hb=>?_⟩<;>(try simp only [nrm] at hb)<;>try exact kZ hb)|refine kV ?_)<;>(conv=>whnf))|refine kY ?_ ?_)
   all_goals (try rw [hn1 (by omega)])
   ·rfl
   ·rfl
   ·rw [List.take_length];exact List.take_of_length_le (by rw [List.length_append];exact Nat.le_refl _)
open Go Go.RowKit Eng
def getF : Nat → List Int → Option (Nat × Nat)
 | _,[]=>none
 | 0,b :: _=>if b < 2 then some (b.toNat,1) else none
 | f + 1,b :: r=>if b < 128 then some (b.toNat,1) else match getF f r with
  | some (n,k)=>if n = 0 then none else some ((b - 128).toNat + 128 * n,k + 1)
  | none=>none
theorem getF_uintF : ∀ (f n : Nat) (r : List Int),n < 2 * 128 ^ f → getF f (uintF f n ++ r) = some (n,(uintF f n).length):=by
 intro f
 induction f with
 | zero =>
  intro n r h
  show (if (n : Int) < 2 then some ((n : Int).toNat,1) else none) = some (n,1)
  rw [if_pos (by omega),Int.toNat_natCast]
 | succ f ih =>
  intro n r h
  rw [Nat.pow_succ] at h
  by_cases hn : n < 128
  ·have e : uintF (f + 1) n = [(n : Int)]:=if_pos hn
   rw [e]
   show (if (n : Int) < 128 then some ((n : Int).toNat,1) else _) = some (n,1)
   rw [if_pos (by omega),Int.toNat_natCast]
  ·have e : uintF (f + 1) n = ((n % 128 + 128 : Nat) : Int) :: uintF f (n / 128):=if_neg hn
   have h2:=ih (n / 128) r (by omega)
   rw [e]
   show (if ((n % 128 + 128 : Nat) : Int) < 128 then _ else match getF f (uintF f (n / 128) ++ r) with
    | some (m,k)=>if m = 0 then none else some ((((n % 128 + 128 : Nat) : Int) - 128).toNat + 128 * m,k + 1)
    | none=>none) = some (n,(uintF f (n / 128)).length + 1)
   rw [if_neg (by omega),h2]
   show (if n / 128 = 0 then none else some ((((n % 128 + 128 : Nat) : Int) - 128).toNat + 128 * (n / 128),(uintF f (n / 128)).length + 1)) = _
   rw [if_neg (by omega),show (((n % 128 + 128 : Nat) : Int) - 128).toNat + 128 * (n / 128) = n by omega]
theorem uintF_getF : ∀ (f : Nat) (l : List Int) (n k : Nat),okU8 l → getF f l = some (n,k) → l.take k = uintF f n ∧ k = (uintF f n).length ∧ k ≤ l.length ∧ n < 2 * 128 ^ f:=by
 intro f
 induction f with
 | zero =>
  intro l n k hl h
  match l,h with
  | b :: r,h =>
   have hb:=hl b (List.mem_cons_self ..)
   change (if b < 2 then some (b.toNat,1) else none) = some (n,k) at h
   by_cases h2 : b < 2
   ·rw [if_pos h2] at h
    cases h
    refine ⟨?_,rfl,by simp,by omega⟩
    show [b] = [((b.toNat : Nat) : Int)]
    rw [Int.toNat_of_nonneg hb.1]
   ·rw [if_neg h2] at h;cases h
 | succ f ih =>
  intro l n k hl h
  match l,h with
  | b :: r,h =>
   have hb:=hl b (List.mem_cons_self ..)
   change (if b < 128 then some (b.toNat,1) else match getF f r with
    | some (m,j)=>if m = 0 then none else some ((b - 128).toNat + 128 * m,j + 1)
    | none=>none) = some (n,k) at h
   by_cases h2 : b < 128
   ·rw [if_pos h2] at h
    cases h
    have e : uintF (f + 1) b.toNat = [((b.toNat : Nat) : Int)]:=if_pos (by omega)
    have hp : 1 ≤ 128 ^ f:=Nat.one_le_pow _ _ (by decide)
    rw [e,Nat.pow_succ]
    refine ⟨?_,rfl,by simp,by omega⟩
    show [b] = [((b.toNat : Nat) : Int)]
    rw [Int.toNat_of_nonneg hb.1]
   ·rw [if_neg h2] at h
    cases hg : getF f r with
    | none=>rw [hg] at h;cases h
    | some p =>
     obtain ⟨m,j⟩:=p
     rw [hg] at h
     obtain ⟨h3,h4,h5,h6⟩:=ih r m j (fun i hi=>hl i (List.mem_cons_of_mem _ hi)) hg
     by_cases hm : m = 0
     ·rw [hm] at h;cases h
     ·change (if m = 0 then none else some ((b - 128).toNat + 128 * m,j + 1)) = some (n,k) at h
      rw [if_neg hm] at h
      cases h
      have e : uintF (f + 1) ((b - 128).toNat + 128 * m) = ((((b - 128).toNat + 128 * m) % 128 + 128 : Nat) : Int) :: uintF f (((b - 128).toNat + 128 * m) / 128):=if_neg (by omega)
      have e1 : ((b - 128).toNat + 128 * m) / 128 = m:=by omega
      have e2 : ((b - 128).toNat + 128 * m) % 128 + 128 = b.toNat:=by omega
      rw [e,e1,e2,Int.toNat_of_nonneg hb.1,Nat.pow_succ]
      refine ⟨?_,?_,?_,by omega⟩
      ·rw [List.take_succ_cons,h3]
      ·rw [List.length_cons,h4]
      ·rw [List.length_cons];omega
open Go Go.RowKit Eng
theorem uint_evz (l : List (El .u8)) (len : Nat) (z : Int) (hlen : len = l.length) (h0 : 0 ≤ z) (hz : z < 9223372036854775808) (hl : l.length + 10 ≤ 140737488355328) : Ev1 Tryz.prog 77 [.own .u8 1 0 len none,.lit (.int .u64 z)] [(1,.row .u8 l)] (.own .u8 390001 0 (len + (uintL z.toNat).length) none) [(390001,.row .u8 (l ++ uintL z.toNat))]:=by
 obtain ⟨n,rfl⟩ : ∃ n : Nat,z = (n : Int):=⟨z.toNat,by omega⟩
 subst hlen
 exact uint_ev l n (by omega) hl
def okN (z : Int) : Prop:=0 ≤ z ∧ z < 9223372036854775808
theorem okN.le {z : Int} (h : okN z) : z ≤ 18446744073709551615:=by have:=h.2;omega
def putY (ns : List Int) : List Int:=ns.flatMap fun z=>uintL z.toNat
theorem putY_len (ns : List Int) : (putY ns).length ≤ ns.length * 10:=by
 induction ns with
 | nil=>simp [putY]
 | cons a r ih=>simp only [putY,List.flatMap_cons,List.length_append,List.length_cons] at *;have:=uintF_len 9 a.toNat;unfold uintL at *;omega
theorem putY_take {ns : List Int} {k : Nat} (h : k < ns.length) : putY (ns.take (k + 1)) = putY (ns.take k) ++ uintL (elt .i64 ns k).toNat:=by
 have:=elt_get .i64 ns k h
 rw [List.take_add_one,this]
 simp [putY]
theorem put_ev (l : List (El .u8)) (len : Nat) (ns : List (El .i64)) (n : Nat) (hn : n = ns.length) (hlen : len = l.length) (hns : ∀ z ∈ ns,okN z) (hl : l.length + ns.length * 10 + 10 ≤ 140737488355328) :
  Ev1 Tryz.prog 149 [.own .i64 3 0 n (some n),.ptr 0 0] [(0,.box [.own .u8 1 0 len none]),(1,.row .u8 l),(3,.row .i64 ns)] (.tup []) [(0,.box [.own .u8 390001 0 (len + (putY ns).length) none]),(390001,.row .u8 (l ++ putY ns))]:=by
 subst hn
 subst hlen
 refine eF Tryz.func149 14 ?_
 conv=>whnf
 refine Runs.loopS cfg_ok (σ:=Nat) [1,5,6,7] (fun k=>[.ptr 0 0,.own .i64 3 0 ns.length none,i64 ns.length,i64 k]) (fun k=>[(0,.box [.own .u8 350001 0 (l.length + (putY (ns.take k)).length) none]),(350001,.row .u8 (l ++ putY (ns.take k))),(3,.row .i64 ns)])
  (fun k=>k ≤ ns.length) (fun k=>ns.length - k) 0 (by omega) ?_ ?_
 ·conv=>whnf
  repeat' (first|exact trivial|((first|(refine ⟨fun hb=>?_,fun hb=>?_⟩<;>(try simp only [nrm] at hb)<;>try exact kZ hb)|refine kV ?_)<;>(conv=>whnf))|refine kY ?_ ?_)
  all_goals first|rfl|(simp [putY];done)
 ·intro k hk
  by_cases hlt : k < ns.length
  ·have hz:=hns _ (elt_mem (t:=.i64) hlt)
   have hz2:=hz.le
   have hpl:=putY_len (ns.take k)
   rw [List.length_take] at hpl
   conv=>whnf
   repeat' (first|exact trivial|((first|refine kL ?_|(refine ⟨fun hb=>?_,fun hb=>?_⟩<;>(try simp only [nrm] at hb)<;>try exact kZ hb)|(refine isE 77 ?_;refine kE (uint_evz (l ++ putY (ns.take k)) _ (elt .i64 ns k) (by rw [List.length_append]) hz.1 hz.2 (by rw [List.length_append];omega)) [(1,350001),(390001,350003)] rfl ?_)|(refine isD 77 ?_;refine kF (uint_evz (l ++ putY (ns.take k)) _ (elt .i64 ns k) (by rw [List.length_append]) hz.1 hz.2 (by rw [List.length_append];omega)) [(1,350001),(390001,350003)] rfl ?_)|(refine .inl ⟨inU64 hz.1 hz2,?_⟩)|refine kV ?_)<;>(conv=>whnf))|refine kY ?_ ?_)
   refine .to (k + 1) hlt (by omega) ?_
   have hpt:=putY_take hlt
   conv=>whnf
   repeat' (first|exact trivial|((first|(refine ⟨fun hb=>?_,fun hb=>?_⟩<;>(try simp only [nrm] at hb)<;>try exact kZ hb)|refine kV ?_)<;>(conv=>whnf))|refine kY ?_ ?_)
   all_goals (try rw [hpt])
   ·exact List.take_length
   ·rw [List.length_append,Nat.add_assoc]
   ·rw [List.append_assoc];exact List.take_of_length_le (by simp only [List.length_append];omega)
  ·obtain rfl : k = ns.length:=by omega
   rw [List.take_length]
   conv=>whnf
   repeat' (first|exact trivial|((first|(refine ⟨fun hb=>?_,fun hb=>?_⟩<;>(try simp only [nrm] at hb)<;>try exact kZ hb)|refine kV ?_)<;>(conv=>whnf))|refine kY ?_ ?_)
   all_goals first|rfl|exact List.take_length|(refine List.take_of_length_le ?_;first|exact Nat.le_refl _|(rw [List.length_append];exact Nat.le_refl _))
theorem put_nil (ns : List (El .i64)) (n : Nat) (hn : n = ns.length) (hns : ∀ z ∈ ns,okN z) (hl : ns.length * 10 + 10 ≤ 140737488355328) :
  Ev1 Tryz.prog 149 [.own .i64 3 0 n (some n),.ptr 0 0] [(0,.box [.lit (.slice none 0 0)]),(3,.row .i64 ns)] (.tup []) [(0,.box [.own .u8 390001 0 (putY ns).length none]),(390001,.row .u8 (putY ns))]:=by
 subst hn
 refine eF Tryz.func149 14 ?_
 conv=>whnf
 refine Runs.loopS cfg_ok (σ:=Nat) [1,5,6,7] (fun k=>[.ptr 0 0,.own .i64 3 0 ns.length none,i64 ns.length,i64 k]) (fun k=>[(0,.box [.own .u8 350001 0 (putY (ns.take k)).length none]),(350001,.row .u8 (putY (ns.take k))),(3,.row .i64 ns)])
  (fun k=>k ≤ ns.length) (fun k=>ns.length - k) 0 (by omega) ?_ ?_
 ·conv=>whnf
  repeat' (first|exact trivial|((first|(refine ⟨fun hb=>?_,fun hb=>?_⟩<;>(try simp only [nrm] at hb)<;>try exact kZ hb)|refine kV ?_)<;>(conv=>whnf))|refine kY ?_ ?_)
  all_goals first|rfl|(simp [putY];done)
 ·intro k hk
  by_cases hlt : k < ns.length
  ·have hz:=hns _ (elt_mem (t:=.i64) hlt)
   have hz2:=hz.le
   have hpl:=putY_len (ns.take k)
   rw [List.length_take] at hpl
   conv=>whnf
   repeat' (first|exact trivial|((first|refine kL ?_|(refine ⟨fun hb=>?_,fun hb=>?_⟩<;>(try simp only [nrm] at hb)<;>try exact kZ hb)|(refine isE 77 ?_;refine kE (uint_evz (putY (ns.take k)) _ (elt .i64 ns k) rfl hz.1 hz.2 (by omega)) [(1,350001),(390001,350003)] rfl ?_)|(refine isD 77 ?_;refine kF (uint_evz (putY (ns.take k)) _ (elt .i64 ns k) rfl hz.1 hz.2 (by omega)) [(1,350001),(390001,350003)] rfl ?_)|(refine .inl ⟨inU64 hz.1 hz2,?_⟩)|refine kV ?_)<;>(conv=>whnf))|refine kY ?_ ?_)
   refine .to (k + 1) hlt (by omega) ?_
   have hpt:=putY_take hlt
   conv=>whnf
   repeat' (first|exact trivial|((first|(refine ⟨fun hb=>?_,fun hb=>?_⟩<;>(try simp only [nrm] at hb)<;>try exact kZ hb)|refine kV ?_)<;>(conv=>whnf))|refine kY ?_ ?_)
   all_goals (try rw [hpt])
   ·exact List.take_length
   ·rw [List.length_append]
   ·exact List.take_of_length_le (by simp only [List.length_append];omega)
  ·obtain rfl : k = ns.length:=by omega
   rw [List.take_length]
   conv=>whnf
   repeat' (first|exact trivial|((first|(refine ⟨fun hb=>?_,fun hb=>?_⟩<;>(try simp only [nrm] at hb)<;>try exact kZ hb)|refine kV ?_)<;>(conv=>whnf))|refine kY ?_ ?_)
   all_goals first|rfl|exact List.take_length|(refine List.take_of_length_le ?_;first|exact Nat.le_refl _|(rw [List.length_append];exact Nat.le_refl _))
open Go Go.RowKit Eng
theorem rightGo_boxes : ∀ (l : List Int) (k : Nat) (bs : List Box),rightGo l k bs = some [] → bs.length ≤ l.length ∧ ∀ b ∈ bs,b.bag.length = 6 ∧ bagOk b.bag = true
 | [],k,bs,h=>by simp [rightGo] at h;subst h;simp
 | i :: r,k,bs,h=>by
  simp only [rightGo] at h
  split at h
  ·split at h
   ·cases bs with
    | nil=>cases h
    | cons b bs =>
     simp only at h
     split at h
     ·rename_i hb
      obtain ⟨h1,h2⟩:=rightGo_boxes r (k + 1) bs h
      have hbk : b.bag.length = 6 ∧ bagOk b.bag = true:=by simp only [boxAt,Bool.and_eq_true,beq_iff_eq,decide_eq_true_eq] at hb;exact ⟨by omega,hb.2.2⟩
      refine ⟨by simp only [List.length_cons];omega,fun x hx=>?_⟩
      rcases List.mem_cons.1 hx with rfl|hx
      ·exact hbk
      ·exact h2 x hx
     ·cases h
   ·obtain ⟨h1,h2⟩:=rightGo_boxes r (k + 1) bs h
    exact ⟨by simp only [List.length_cons];omega,h2⟩
  ·cases h
theorem stackN_le (i : Int) : stackN i ≤ 16:=by unfold stackN;(repeat' split)<;>omega
theorem okN_slot {s : Slot} (h : badSlot s = false) : 0 ≤ s.n ∧ s.n ≤ 16:=by
 have:=stackN_le s.item
 simp only [badSlot,Bool.and_eq_false_iff,Bool.or_eq_false_iff,Bool.not_eq_false',Bool.and_eq_true,beq_iff_eq,decide_eq_false_iff_not] at h
 omega
theorem okN_heap {h : Heap} (hb : badHeap h = false) : 0 ≤ h.cell ∧ h.cell < 64 ∧ 1 ≤ h.slot.n ∧ h.slot.n ≤ 16:=by
 have:=stackN_le h.slot.item
 simp only [badHeap,someB,Bool.or_eq_false_iff,Bool.not_eq_false',Bool.and_eq_true,decide_eq_true_eq] at hb
 omega
theorem any_false {α : Type} {p : α → Bool} {l : List α} (h : l.any p = false) {a : α} (ha : a ∈ l) : p a = false:=by
 cases hp : p a with
 | false=>rfl
 | true=>rw [List.any_eq_true.2 ⟨a,ha,hp⟩] at h;cases h
def heapL (h : Heap) : List Int:=putY [h.cell,h.slot.item,h.slot.n]
def slotL (s : Slot) : List Int:=putY [s.item,s.n]
def boxL (b : Box) : List Int:=b.bag.flatMap slotL
def bytesC (c : Chunk) : List Int:=((putY [c.x,c.y] ++ c.cells) ++ putY [(c.heaps.length : Int)]) ++ c.heaps.flatMap heapL ++ c.boxes.flatMap boxL
theorem flatMap_len {α : Type} (f : α → List Int) (m : Nat) : ∀ (l : List α),(∀ a ∈ l,(f a).length ≤ m) → (l.flatMap f).length ≤ l.length * m
 | [],_=>by simp
 | a :: r,h=>by
  simp only [List.flatMap_cons,List.length_append,List.length_cons,Nat.succ_mul]
  have:=h a (by simp)
  have:=flatMap_len f m r (fun x hx=>h x (by simp [hx]))
  omega
theorem app_next (P : List Int) (l : List Int) (k : Nat) (h : k < l.length) : List.take (P.length + k + 1) (List.take (P.length + k) (P ++ l.take k) ++ [elt .u8 l k]) = P ++ l.take (k + 1):=by
 have h1 : (P ++ l.take k).length = P.length + k:=by simp;omega
 rw [← h1,List.take_length,List.take_of_length_le (by simp only [List.length_append,List.length_cons,List.length_nil];omega)]
 have:=elt_get .u8 l k h
 rw [List.take_add_one,this]
 simp
theorem flatMap_take {t : Ty} {l : List (El t)} (f : El t → List Int) {k : Nat} (h : k < l.length) : (l.take (k + 1)).flatMap f = (l.take k).flatMap f ++ f (elt t l k):=by
 have:=elt_get t l k h
 rw [List.take_add_one,this]
 simp
theorem heapL_len (h : Heap) : (heapL h).length ≤ 30:=putY_len _
theorem slotL_len (s : Slot) : (slotL s).length ≤ 20:=putY_len _
theorem grow_len {t : Ty} {l : List (El t)} {f : El t → List Int} {k : Nat} (Q : List Int) (h : k < l.length) {v : List Int} (hv : f (elt t l k) = v) : Q.length + ((l.take k).flatMap f).length + v.length = Q.length + ((l.take (k + 1)).flatMap f).length:=by
 rw [flatMap_take f h,hv,List.length_append,Nat.add_assoc]
theorem grow_row {t : Ty} {l : List (El t)} {f : El t → List Int} {k : Nat} (Q : List Int) (h : k < l.length) {v : List Int} (hv : f (elt t l k) = v) : List.take (Q.length + ((l.take k).flatMap f).length + v.length) (Q ++ (l.take k).flatMap f ++ v) = Q ++ (l.take (k + 1)).flatMap f:=by
 rw [flatMap_take f h,hv,List.take_of_length_le (by simp only [List.length_append];omega),List.append_assoc]
theorem bytes_api (c : Chunk) (hc : OkC c) : Api Tryz.prog 79 [chunkV c] (.tup [.vec .u8 (if rightB c = true then bytesC c else []),i64 (if rightB c = true then 0 else 101)]):=by
 have hrt:=cright_api c hc
 cases hR : rightB c with
 | false =>
  rw [hR] at hrt
  rw [if_neg (by simp),if_neg (by simp)]
  refine aF Tryz.func79 87 ?_
  exact fD0
 | true =>
  rw [hR] at hrt
  rw [if_pos rfl,if_pos rfl]
  have hRC:=rightC_of hR
  have hlen:=hRC.len
  have hH:=hRC.head
  simp only [headB,Bool.and_eq_true,decide_eq_true_eq] at hH
  obtain ⟨hx0,hy0,hx1,hy1,-,hh32⟩:=hH
  obtain ⟨hbl,hbx⟩:=rightGo_boxes _ _ _ hRC.go
  refine aF Tryz.func79 87 ?_
  conv=>whnf
  have hp0 : (putY [c.x,c.y]).length ≤ 20:=putY_len _
  have hp1 : (putY [(c.heaps.length : Int)]).length ≤ 10:=putY_len _
  generalize hP0 : putY [c.x,c.y] = P0 at *
  repeat' (first|exact trivial|((first|refine kL ?_|(refine ⟨fun hb=>?_,fun hb=>?_⟩<;>(try simp only [nrm] at hb)<;>try exact kZ hb)|refine kE (hP0 ▸ put_nil [c.x,c.y] _ rfl (by simp [okN];omega) (by simp)) [(0,8),(3,47),(390001,150001)] rfl ?_|refine kF (hP0 ▸ put_nil [c.x,c.y] _ rfl (by simp [okN];omega) (by simp)) [(0,8),(3,47),(390001,150001)] rfl ?_|refine kV ?_)<;>(conv=>whnf))|refine kY ?_ ?_)
  refine Runs.loopS cfg_ok (σ:=Nat) [1,4,5,26,27,28] (fun k=>[.ptr 2 0,.ptr 8 0,.clo (.func 149) [] [.ptr 8 0],.vec .u8 c.cells,i64 c.cells.length,i64 k]) (fun k=>[(2,.box (chunkC c)),(8,.box [.own .u8 150001 0 (P0.length + k) none]),(150001,.row .u8 (P0 ++ c.cells.take k))])
   (fun k=>k ≤ c.cells.length) (fun k=>c.cells.length - k) 0 (by omega) ?_ ?_
  ·exact fD0
  ·intro k hk
   by_cases hlt : k < c.cells.length
   ·conv=>whnf
    repeat' (first|exact trivial|((first|(refine ⟨fun hb=>?_,fun hb=>?_⟩<;>(try simp only [nrm] at hb)<;>try exact kZ hb)|refine kV ?_)<;>(conv=>whnf))|refine kY ?_ ?_)
    refine .to (k + 1) hlt (by omega) ?_
    conv=>whnf
    repeat' (first|exact trivial|((first|(refine ⟨fun hb=>?_,fun hb=>?_⟩<;>(try simp only [nrm] at hb)<;>try exact kZ hb)|refine kV ?_)<;>(conv=>whnf))|refine kY ?_ ?_)
    exact app_next P0 c.cells k hlt
   ·obtain rfl : k = c.cells.length:=by omega
    rw [List.take_length]
    conv=>whnf
    repeat' (first|exact trivial|((first|refine kL ?_|(refine ⟨fun hb=>?_,fun hb=>?_⟩<;>(try simp only [nrm] at hb)<;>try exact kZ hb)|refine kE (put_ev (P0 ++ c.cells) _ [(c.heaps.length : Int)] _ rfl (by rw [List.length_append]) (by simp [okN];omega) (by simp;omega)) [(0,8),(1,150001),(3,83),(390001,150003)] rfl ?_|refine kF (put_ev (P0 ++ c.cells) _ [(c.heaps.length : Int)] _ rfl (by rw [List.length_append]) (by simp [okN];omega) (by simp;omega)) [(0,8),(1,150001),(3,83),(390001,150003)] rfl ?_|refine kV ?_)<;>(conv=>whnf))|refine kY ?_ ?_)
    generalize hP1 : putY [(c.heaps.length : Int)] = P1 at *
    have hQl : (P0 ++ c.cells ++ P1).length ≤ 94:=by simp only [List.length_append];omega
    have hQe : P0.length + c.cells.length + P1.length = (P0 ++ c.cells ++ P1).length:=by simp only [List.length_append]
    refine Runs.loopS cfg_ok (σ:=Nat) [1,4,5,44,45,46] (fun k=>[.ptr 2 0,.ptr 8 0,.clo (.func 149) [] [.ptr 8 0],.vec .heap c.heaps,i64 c.heaps.length,i64 k]) (fun k=>[(2,.box (chunkC c)),(8,.box [.own .u8 150003 0 ((P0 ++ c.cells ++ P1).length + ((c.heaps.take k).flatMap heapL).length) none]),(150003,.row .u8 (P0 ++ c.cells ++ P1 ++ (c.heaps.take k).flatMap heapL))])
     (fun k=>k ≤ c.heaps.length) (fun k=>c.heaps.length - k) 0 (by omega) ?_ ?_
    ·conv=>whnf
     repeat' (first|exact trivial|((first|(refine ⟨fun hb=>?_,fun hb=>?_⟩<;>(try simp only [nrm] at hb)<;>try exact kZ hb)|refine kV ?_)<;>(conv=>whnf))|refine kY ?_ ?_)
     ·show _ = _ + (List.flatMap heapL (List.take 0 c.heaps)).length
      rw [hQe];rfl
     ·rw [hQe,List.take_length];simp
    ·intro k hk
     have hfl:=flatMap_len heapL 30 (c.heaps.take k) (fun a _=>heapL_len a)
     rw [List.length_take] at hfl
     generalize hQ : P0 ++ c.cells ++ P1 = Q at *
     by_cases hlt : k < c.heaps.length
     ·obtain ⟨ha1,ha2,ha3,ha4⟩:=okN_heap (any_false hRC.heaps (elt_mem (t:=.heap) hlt))
      obtain ⟨hb1,hb2⟩ : 0 ≤ (elt .heap c.heaps k).slot.item ∧ (elt .heap c.heaps k).slot.item ≤ 255:=hc.heaps _ (elt_mem (t:=.heap) hlt)
      have hi1 : -9223372036854775808 ≤ (elt .heap c.heaps k).slot.item:=by omega
      have hi2 : (elt .heap c.heaps k).slot.item ≤ 9223372036854775807:=by omega
      have hok : ∀ z ∈ [(elt .heap c.heaps k).cell,(elt .heap c.heaps k).slot.item,(elt .heap c.heaps k).slot.n],okN z:=by
       intro z hz
       simp only [List.mem_cons,List.not_mem_nil,or_false] at hz
       rcases hz with rfl|rfl|rfl<;>(unfold okN;omega)
      have hput:=put_ev (Q ++ (c.heaps.take k).flatMap heapL) _ [(elt .heap c.heaps k).cell,(elt .heap c.heaps k).slot.item,(elt .heap c.heaps k).slot.n] _ rfl (by rw [List.length_append]) hok (by simp only [List.length_append,List.length_cons,List.length_nil];omega)
      conv=>whnf
      repeat' (first|exact trivial|((first|refine kL ?_|(refine ⟨fun hb=>?_,fun hb=>?_⟩<;>(try simp only [nrm] at hb)<;>try exact kZ hb)|refine kE hput [(0,8),(1,150003),(3,121),(390001,150005)] rfl ?_|refine kF hput [(0,8),(1,150003),(3,121),(390001,150005)] rfl ?_|(refine .inl ⟨in64 hi1 hi2,?_⟩)|refine kV ?_)<;>(conv=>whnf))|refine kY ?_ ?_)
      refine .to (k + 1) hlt (by omega) ?_
      conv=>whnf
      repeat' (first|exact trivial|((first|(refine ⟨fun hb=>?_,fun hb=>?_⟩<;>(try simp only [nrm] at hb)<;>try exact kZ hb)|refine kV ?_)<;>(conv=>whnf))|refine kY ?_ ?_)
      ·exact grow_len (t:=.heap) (f:=heapL) Q hlt rfl
      ·exact grow_row (t:=.heap) (f:=heapL) Q hlt rfl
     ·obtain rfl : k = c.heaps.length:=by omega
      rw [List.take_length] at hfl ⊢
      have hSl : (Q ++ c.heaps.flatMap heapL).length ≤ 1054:=by rw [List.length_append];omega
      have hSe : Q.length + (c.heaps.flatMap heapL).length = (Q ++ c.heaps.flatMap heapL).length:=by rw [List.length_append]
      rw [hSe]
      generalize hS : Q ++ c.heaps.flatMap heapL = S at *
      clear hSe
      conv=>whnf
      repeat' (first|exact trivial|((first|(refine ⟨fun hb=>?_,fun hb=>?_⟩<;>(try simp only [nrm] at hb)<;>try exact kZ hb)|refine kV ?_)<;>(conv=>whnf))|refine kY ?_ ?_)
      refine Runs.loopS cfg_ok (σ:=Nat) [4,5,64,65,66] (fun k=>[.ptr 8 0,.clo (.func 149) [] [.ptr 8 0],.vec .box c.boxes,i64 c.boxes.length,i64 k]) (fun k=>[(8,.box [.own .u8 150003 0 (S.length + ((c.boxes.take k).flatMap boxL).length) none]),(150003,.row .u8 (S ++ (c.boxes.take k).flatMap boxL))])
       (fun k=>k ≤ c.boxes.length) (fun k=>c.boxes.length - k) 0 (by omega) ?_ ?_
      ·conv=>whnf
       repeat' (first|exact trivial|((first|(refine ⟨fun hb=>?_,fun hb=>?_⟩<;>(try simp only [nrm] at hb)<;>try exact kZ hb)|refine kV ?_)<;>(conv=>whnf))|refine kY ?_ ?_)
       all_goals first|rfl|(rw [List.take_length];simp;done)
      ·intro k hk
       have hfl2:=flatMap_len boxL 120 (c.boxes.take k) (fun a ha=>by
        have h6:=(hbx a (List.mem_of_mem_take ha)).1
        have:=flatMap_len slotL 20 a.bag (fun s _=>slotL_len s)
        unfold boxL
        omega)
       rw [List.length_take] at hfl2
       by_cases hlt : k < c.boxes.length
       ·obtain ⟨h6,hbag⟩:=hbx _ (elt_mem (t:=.box) hlt)
        conv=>whnf
        repeat' (first|exact trivial|((first|(refine ⟨fun hb=>?_,fun hb=>?_⟩<;>(try simp only [nrm] at hb)<;>try exact kZ hb)|refine kV ?_)<;>(conv=>whnf))|refine kY ?_ ?_)
        generalize hT : S ++ (c.boxes.take k).flatMap boxL = T at *
        have hTe : S.length + ((c.boxes.take k).flatMap boxL).length = T.length:=by rw [← hT,List.length_append]
        rw [hTe]
        have hTl : T.length ≤ 10000:=by omega
        refine Runs.loopS cfg_ok (σ:=Nat) [4,5,64,65,66,71,72,73] (fun j=>[.ptr 8 0,.clo (.func 149) [] [.ptr 8 0],.vec .box c.boxes,i64 c.boxes.length,i64 k,.vec .slot (elt .box c.boxes k).bag,i64 (elt .box c.boxes k).bag.length,i64 j]) (fun j=>[(8,.box [.own .u8 150003 0 (T.length + (((elt .box c.boxes k).bag.take j).flatMap slotL).length) none]),(150003,.row .u8 (T ++ ((elt .box c.boxes k).bag.take j).flatMap slotL))])
         (fun j=>j ≤ (elt .box c.boxes k).bag.length) (fun j=>(elt .box c.boxes k).bag.length - j) 0 (by omega) ?_ ?_
        ·conv=>whnf
         repeat' (first|exact trivial|((first|(refine ⟨fun hb=>?_,fun hb=>?_⟩<;>(try simp only [nrm] at hb)<;>try exact kZ hb)|refine kV ?_)<;>(conv=>whnf))|refine kY ?_ ?_)
         all_goals first|rfl|(rw [List.take_length];simp;done)
        ·intro j hj
         have hfl3:=flatMap_len slotL 20 ((elt .box c.boxes k).bag.take j) (fun s _=>slotL_len s)
         rw [List.length_take] at hfl3
         by_cases hlj : j < (elt .box c.boxes k).bag.length
         ·obtain ⟨ha1,ha2⟩:=okN_slot (any_false (by simpa only [bagOk,Bool.not_eq_true'] using hbag) (elt_mem (t:=.slot) hlj))
          obtain ⟨hb1,hb2⟩ : 0 ≤ (elt .slot (elt .box c.boxes k).bag j).item ∧ (elt .slot (elt .box c.boxes k).bag j).item ≤ 255:=(hc.boxes _ (elt_mem (t:=.box) hlt)).1 _ (elt_mem (t:=.slot) hlj)
          have hi1 : -9223372036854775808 ≤ (elt .slot (elt .box c.boxes k).bag j).item:=by omega
          have hi2 : (elt .slot (elt .box c.boxes k).bag j).item ≤ 9223372036854775807:=by omega
          have hok : ∀ z ∈ [(elt .slot (elt .box c.boxes k).bag j).item,(elt .slot (elt .box c.boxes k).bag j).n],okN z:=by
           intro z hz
           simp only [List.mem_cons,List.not_mem_nil,or_false] at hz
           rcases hz with rfl|rfl<;>(unfold okN;omega)
          have hput:=put_ev (T ++ ((elt .box c.boxes k).bag.take j).flatMap slotL) _ [(elt .slot (elt .box c.boxes k).bag j).item,(elt .slot (elt .box c.boxes k).bag j).n] _ rfl (by rw [List.length_append]) hok (by simp only [List.length_append,List.length_cons,List.length_nil];omega)
          conv=>whnf
          repeat' (first|exact trivial|((first|refine kL ?_|(refine ⟨fun hb=>?_,fun hb=>?_⟩<;>(try simp only [nrm] at hb)<;>try exact kZ hb)|refine kE hput [(0,8),(1,150003),(3,167),(390001,150005)] rfl ?_|refine kF hput [(0,8),(1,150003),(3,167),(390001,150005)] rfl ?_|(refine .inl ⟨in64 hi1 hi2,?_⟩)|refine kV ?_)<;>(conv=>whnf))|refine kY ?_ ?_)
          refine .to (j + 1) hlj (by omega) ?_
          conv=>whnf
          repeat' (first|exact trivial|((first|(refine ⟨fun hb=>?_,fun hb=>?_⟩<;>(try simp only [nrm] at hb)<;>try exact kZ hb)|refine kV ?_)<;>(conv=>whnf))|refine kY ?_ ?_)
          ·exact grow_len (t:=.slot) (f:=slotL) T hlj rfl
          ·exact grow_row (t:=.slot) (f:=slotL) T hlj rfl
         ·obtain rfl : j = (elt .box c.boxes k).bag.length:=by omega
          rw [List.take_length]
          conv=>whnf
          repeat' (first|exact trivial|((first|(refine ⟨fun hb=>?_,fun hb=>?_⟩<;>(try simp only [nrm] at hb)<;>try exact kZ hb)|refine kV ?_)<;>(conv=>whnf))|refine kY ?_ ?_)
          refine .to (k + 1) hlt (by omega) ?_
          conv=>whnf
          repeat' (first|exact trivial|((first|(refine ⟨fun hb=>?_,fun hb=>?_⟩<;>(try simp only [nrm] at hb)<;>try exact kZ hb)|refine kV ?_)<;>(conv=>whnf))|refine kY ?_ ?_)
          ·rw [← hTe]
           exact grow_len (t:=.box) (f:=boxL) S hlt rfl
          ·rw [← hTe,← hT]
           exact grow_row (t:=.box) (f:=boxL) S hlt rfl
       ·obtain rfl : k = c.boxes.length:=by omega
        rw [List.take_length]
        conv=>whnf
        repeat' (first|exact trivial|((first|(refine ⟨fun hb=>?_,fun hb=>?_⟩<;>(try simp only [nrm] at hb)<;>try exact kZ hb)|refine kV ?_)<;>(conv=>whnf))|refine kY ?_ ?_)
        show List.drop 0 (List.take (S.length + (c.boxes.flatMap boxL).length) (S ++ c.boxes.flatMap boxL)) = bytesC c
        rw [List.drop_zero,← List.length_append,List.take_length,bytesC,hP0,hP1,hQ,hS]
end Go.Proofs.YtaecchphjploaaaGreat
