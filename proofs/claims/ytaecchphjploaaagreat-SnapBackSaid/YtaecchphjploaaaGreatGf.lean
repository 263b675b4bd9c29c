/- Contracts of gen and world. -/
import Derived.Test.YtaecchphjploaaaGreatGe
import Derived.Test.YtaecchphjploaaaGreatGd
set_option linter.unusedSimpArgs false
set_option linter.unusedVariables false
set_option maxRecDepth 100000
set_option maxHeartbeats 16000000
namespace Go.Proofs.YtaecchphjploaaaGreat
open Go Go.RowKit Eng
def w64 (z : Int) : Int:=IntKind.u64.wrap z
def turnM (by_ k x : Int) : Int:=w64 (bitR .xor .u64 x (x.fdiv (2 ^ min by_.toNat IntKind.u64.bits)) * k)
def mix0 (seed n : Int) : Int:=w64 (seed + w64 (w64 (n + 1) * 11400714819323198485))
def mix1 (seed n : Int) : Int:=turnM 30 13787848793156543929 (mix0 seed n)
def mix2 (seed n : Int) : Int:=turnM 27 10723151780598845931 (mix1 seed n)
def mixI (seed n : Int) : Int:=bitR .xor .u64 (mix2 seed n) ((mix2 seed n).fdiv (2 ^ min (Int.toNat 31) IntKind.u64.bits))
theorem mixI_bd (s n : Int) : 0 ≤ mixI s n ∧ mixI s n ≤ 18446744073709551615:=by
 unfold mixI bitR
 simp only
 generalize (BitVec.ofInt _ _ ^^^ BitVec.ofInt _ _) = b
 have : b.toNat < 2 ^ 64:=b.isLt
 rw [show IntKind.u64.wrap (b.toNat : Int) = (b.toNat : Int) from by
  have h:=IntWalk.u64_in (b.toNat : Int) (by omega)
  exact h]
 omega
theorem mix_api (seed n : Int) : Api Tryz.prog 167 [.lit (.int .u64 seed),.lit (.int .u64 n)] (.lit (.int .u64 (mixI seed n))):=by
 have h3 : mixI seed n = bitR .xor .u64 (mix2 seed n) ((mix2 seed n).fdiv (2 ^ min (Int.toNat 31) IntKind.u64.bits)):=by unfold mixI;rfl
 have h2 : mix2 seed n = IntKind.u64.wrap (bitR .xor .u64 (mix1 seed n) ((mix1 seed n).fdiv (2 ^ min (Int.toNat 27) IntKind.u64.bits)) * 10723151780598845931):=by unfold mix2 turnM w64;rfl
 have h1 : mix1 seed n = IntKind.u64.wrap (bitR .xor .u64 (mix0 seed n) ((mix0 seed n).fdiv (2 ^ min (Int.toNat 30) IntKind.u64.bits)) * 13787848793156543929):=by unfold mix1 turnM w64;rfl
 have h0 : mix0 seed n = IntKind.u64.wrap (seed + IntKind.u64.wrap (IntKind.u64.wrap (n + 1) * 11400714819323198485)):=by unfold mix0 w64;rfl
 generalize mixI seed n = x3 at *
 generalize mix2 seed n = x2 at *
 generalize mix1 seed n = x1 at *
 generalize mix0 seed n = x0 at *
 refine aF Tryz.func167 31 ?_
 conv=>whnf
 repeat' (first|exact trivial|((first|refine kL ?_|(refine ⟨fun hb=>?_,fun hb=>?_⟩<;>(try simp only [nrm] at hb)<;>try exact kZ hb)|(refine .inr ?_)|refine kV ?_)<;>(conv=>whnf))|refine kY ?_ ?_)
 refine Runs.loopS cfg_ok (σ:=Nat) [5,15,16] (fun k=>[.lit (.int .u64 (if k = 0 then x0 else if k = 1 then x1 else x2)),.agg [i64 30,.lit (.int .u64 13787848793156543929),i64 27,.lit (.int .u64 10723151780598845931)],i64 k]) (fun _=>[]) (fun k=>k ≤ 2) (fun k=>2 - k) 0 (by omega) ?_ ?_
 ·conv=>whnf
  repeat' (first|exact trivial|((first|(refine ⟨fun hb=>?_,fun hb=>?_⟩<;>(try simp only [nrm] at hb)<;>try exact kZ hb)|refine kV ?_)<;>(conv=>whnf))|refine kY ?_ ?_)
  all_goals (refine congrArg (Value.int .u64) ?_;simp only [if_true,if_neg (show ¬ (1:Nat) = 0 by decide),if_neg (show ¬ (2:Nat) = 0 by decide),if_neg (show ¬ (2:Nat) = 1 by decide)];exact h0.symm)
 ·intro k hk
  match k,hk with
  | 0,_ =>
   conv=>whnf
   repeat' (first|exact trivial|((first|refine kL ?_|(refine ⟨fun hb=>?_,fun hb=>?_⟩<;>(try simp only [nrm] at hb)<;>try exact kZ hb)|(refine .inr ?_)|refine kV ?_)<;>(conv=>whnf))|refine kY ?_ ?_)
   refine .to 1 (by omega) (by omega) ?_
   conv=>whnf
   repeat' (first|exact trivial|((first|(refine ⟨fun hb=>?_,fun hb=>?_⟩<;>(try simp only [nrm] at hb)<;>try exact kZ hb)|refine kV ?_)<;>(conv=>whnf))|refine kY ?_ ?_)
   all_goals (refine congrArg (Value.int .u64) ?_;simp only [if_true,if_neg (show ¬ (1:Nat) = 0 by decide),if_neg (show ¬ (2:Nat) = 0 by decide),if_neg (show ¬ (2:Nat) = 1 by decide)];exact h1.symm)
  | 1,_ =>
   conv=>whnf
   repeat' (first|exact trivial|((first|refine kL ?_|(refine ⟨fun hb=>?_,fun hb=>?_⟩<;>(try simp only [nrm] at hb)<;>try exact kZ hb)|(refine .inr ?_)|refine kV ?_)<;>(conv=>whnf))|refine kY ?_ ?_)
   refine .to 2 (by omega) (by omega) ?_
   conv=>whnf
   repeat' (first|exact trivial|((first|(refine ⟨fun hb=>?_,fun hb=>?_⟩<;>(try simp only [nrm] at hb)<;>try exact kZ hb)|refine kV ?_)<;>(conv=>whnf))|refine kY ?_ ?_)
   all_goals (refine congrArg (Value.int .u64) ?_;simp only [if_true,if_neg (show ¬ (1:Nat) = 0 by decide),if_neg (show ¬ (2:Nat) = 0 by decide),if_neg (show ¬ (2:Nat) = 1 by decide)];exact h2.symm)
  | 2,_ =>
   conv=>whnf
   repeat' (first|exact trivial|((first|refine kL ?_|(refine ⟨fun hb=>?_,fun hb=>?_⟩<;>(try simp only [nrm] at hb)<;>try exact kZ hb)|(refine .inr ?_)|refine kV ?_)<;>(conv=>whnf))|refine kY ?_ ?_)
   all_goals (refine congrArg (Value.int .u64) ?_;simp only [if_true,if_neg (show ¬ (1:Nat) = 0 by decide),if_neg (show ¬ (2:Nat) = 0 by decide),if_neg (show ¬ (2:Nat) = 1 by decide)];exact h3.symm)
open Go Go.RowKit Eng
def heightI (seed x : Int) : Int:=40 + mixI seed (100000 + x / 8) % 32
theorem heightI_bd (s x : Int) : 40 ≤ heightI s x ∧ heightI s x ≤ 71:=by unfold heightI;omega
theorem height_api (seed x : Int) (hx : 0 ≤ x) (hx2 : x ≤ 127) : Api Tryz.prog 168 [.lit (.int .u64 seed),i64 x] (i64 (heightI seed x)):=by
 have hm:=mixI_bd seed (100000 + x / 8)
 refine aF Tryz.func168 12 ?_
 conv=>whnf
 repeat' (first|exact trivial|((first|refine kL ?_|(refine ⟨fun hb=>?_,fun hb=>?_⟩<;>(try simp only [nrm] at hb)<;>try exact kZ hb)|(refine isE 167 ?_;refine kA (mix_api seed _) ?_)|(refine isD 167 ?_;refine kD (mix_api seed _) ?_)|refine kV ?_)<;>(conv=>whnf))|refine kY ?_ ?_)
 all_goals trace_state
def cellI (seed x y : Int) : Int:=
 let m:=mixI seed (y * 128 + x)
 let under:=y - heightI seed x
 if under = -1 ∧ m % 11 = 0 then 4
 else if under = -1 ∧ m % 11 = 1 then 3
 else if under < 0 then 0
 else if under ≤ 2 then 1
 else if m % 7 = 0 then 7
 else 2
theorem cell_api (seed x y : Int) (hx : 0 ≤ x) (hx2 : x ≤ 127) (hy : 0 ≤ y) (hy2 : y ≤ 127) : Api Tryz.prog 120 [.lit (.int .u64 seed),i64 x,i64 y] (.lit (.int .u8 (cellI seed x y))):=by
 have hm:=mixI_bd seed (y * 128 + x)
 have hh:=heightI_bd seed x
 refine aF Tryz.func120 54 ?_
 conv=>whnf
 repeat' (first|exact trivial|((first|refine kL ?_|(refine ⟨fun hb=>?_,fun hb=>?_⟩<;>(try simp only [nrm] at hb)<;>try exact kZ hb)|(refine isE 167 ?_;refine kA (mix_api seed _) ?_)|(refine isD 167 ?_;refine kD (mix_api seed _) ?_)|(refine isE 168 ?_;refine kA (height_api seed x hx hx2) ?_)|(refine isD 168 ?_;refine kD (height_api seed x hx hx2) ?_)|refine kV ?_)<;>(conv=>whnf))|refine kY ?_ ?_)
 all_goals first
  | omega
  | (refine congrArg (Value.int .u8) ?_;unfold cellI;simp only [];generalize mixI seed (y * 128 + x) = M at *;generalize heightI seed x = H at *;(repeat' split)<;>omega)
open Go Go.RowKit Eng
def gl (seed x y : Int) (k : Nat) : List Int:=(List.range k).map fun j=>cellI seed (x * 8 + (j % 8 : Nat)) (y * 8 + (j / 8 : Nat))
theorem gl_len (seed x y : Int) (k : Nat) : (gl seed x y k).length = k:=by unfold gl;simp
theorem gl_take (seed x y : Int) (n k : Nat) (h : k = n) : List.take n (gl seed x y k) = gl seed x y n:=by subst h;exact List.take_of_length_le (by rw [gl_len];exact Nat.le_refl _)
theorem gl_zero (seed x y : Int) : gl seed x y 0 = []:=rfl
theorem gl_next (seed x y : Int) (r c : Nat) (hc : c < 8) : gl seed x y (8 * r + (c + 1)) = gl seed x y (8 * r + c) ++ [cellI seed (x * 8 + c) (y * 8 + r)]:=by
 unfold gl
 rw [← Nat.add_assoc,List.range_succ,List.map_append,List.map_singleton,show (8 * r + c) % 8 = c by omega,show (8 * r + c) / 8 = r by omega]
theorem chunk1_ev (seed x y cx cy : Int) (l : List (El .u8)) (n : Nat) (hn : n = l.length) (hl : l.length ≤ 64) (hx : 0 ≤ x) (hx2 : x ≤ 127) (hy : 0 ≤ y) (hy2 : y ≤ 127) : Ev1 Tryz.prog 119 [i64 x,i64 y,.ptr 0 0,.ptr 2 0] [(0,.box [i64 cx,i64 cy,.own .u8 1 0 n none,.lit (.slice none 0 0),.lit (.slice none 0 0)]),(2,.box [.lit (.int .u64 seed)]),(1,.row .u8 l)] (.tup []) [(0,.box [i64 cx,i64 cy,.own .u8 390001 0 (l.length + 1) none,.lit (.slice none 0 0),.lit (.slice none 0 0)]),(2,.box [.lit (.int .u64 seed)]),(390001,.row .u8 (l ++ [cellI seed x y]))]:=by
 subst hn
 refine eF Tryz.func119 11 ?_
 conv=>whnf
 repeat' (first|exact trivial|((first|refine kL ?_|(refine ⟨fun hb=>?_,fun hb=>?_⟩<;>(try simp only [nrm] at hb)<;>try exact kZ hb)|(refine isE 120 ?_;refine kA (cell_api seed x y hx hx2 hy hy2) ?_)|(refine isD 120 ?_;refine kD (cell_api seed x y hx hx2 hy hy2) ?_)|refine kV ?_)<;>(conv=>whnf))|refine kY ?_ ?_)
 all_goals (rw [List.take_length];refine List.take_of_length_le ?_;simp)
theorem each_ev (seed x y cx cy : Int) (hx : 0 ≤ x) (hx2 : x ≤ 15) (hy : 0 ≤ y) (hy2 : y ≤ 15) : Ev1 Tryz.prog 118 [i64 x,i64 y,.clo (.func 119) [] [.ptr 0 0,.ptr 2 0]] [(0,.box [i64 cx,i64 cy,.lit (.slice none 0 0),.lit (.slice none 0 0),.lit (.slice none 0 0)]),(2,.box [.lit (.int .u64 seed)])] (.tup []) [(0,.box [i64 cx,i64 cy,.own .u8 390001 0 64 none,.lit (.slice none 0 0),.lit (.slice none 0 0)]),(2,.box [.lit (.int .u64 seed)]),(390001,.row .u8 (gl seed x y 64))]:=by
 refine eF Tryz.func118 23 ?_
 conv=>whnf
 repeat' (first|exact trivial|((first|(refine ⟨fun hb=>?_,fun hb=>?_⟩<;>(try simp only [nrm] at hb)<;>try exact kZ hb)|refine kV ?_)<;>(conv=>whnf))|refine kY ?_ ?_)
 refine Runs.loopS cfg_ok (σ:=Nat) [0,1,2,8] (fun r=>[i64 x,i64 y,.clo (.func 119) [] [.ptr 0 0,.ptr 2 0],i64 r])
  (fun r=>[(0,.box [i64 cx,i64 cy,.own .u8 350001 0 (8 * r) none,.lit (.slice none 0 0),.lit (.slice none 0 0)]),(2,.box [.lit (.int .u64 seed)]),(350001,.row .u8 (gl seed x y (8 * r)))])
  (fun r=>r ≤ 8) (fun r=>8 - r) 0 (by omega) ?_ ?_
 ·conv=>whnf
  repeat' (first|exact trivial|((first|(refine ⟨fun hb=>?_,fun hb=>?_⟩<;>(try simp only [nrm] at hb)<;>try exact kZ hb)|refine kV ?_)<;>(conv=>whnf))|refine kY ?_ ?_)
  all_goals first|exact gl_zero _ _ _|(rw [gl_len];done)|(rw [gl_len];omega)|(refine gl_take _ _ _ _ _ ?_;omega)|(rw [hn];exact List.take_of_length_le (by simp))|(rw [gl_take _ _ _ _ _ rfl];refine congrArg (gl seed x y) ?_;omega)|(rw [hgl];done)|(rw [hgl];omega)|omega|(refine congrArg _ ?_;omega)
 ·intro r hr
  by_cases hlt : r < 8
  ·conv=>whnf
   repeat' (first|exact trivial|((first|(refine ⟨fun hb=>?_,fun hb=>?_⟩<;>(try simp only [nrm] at hb)<;>try exact kZ hb)|refine kV ?_)<;>(conv=>whnf))|refine kY ?_ ?_)
   refine Runs.loopS cfg_ok (σ:=Nat) [0,1,2,6,8,11] (fun c=>[i64 x,i64 y,.clo (.func 119) [] [.ptr 0 0,.ptr 2 0],i64 r,i64 r,i64 c])
    (fun c=>[(0,.box [i64 cx,i64 cy,.own .u8 350001 0 (8 * r + c) none,.lit (.slice none 0 0),.lit (.slice none 0 0)]),(2,.box [.lit (.int .u64 seed)]),(350001,.row .u8 (gl seed x y (8 * r + c)))])
    (fun c=>c ≤ 8) (fun c=>8 - c) 0 (by omega) ?_ ?_
   ·conv=>whnf
    repeat' (first|exact trivial|((first|(refine ⟨fun hb=>?_,fun hb=>?_⟩<;>(try simp only [nrm] at hb)<;>try exact kZ hb)|refine kV ?_)<;>(conv=>whnf))|refine kY ?_ ?_)
    all_goals first|exact gl_zero _ _ _|(rw [gl_len];done)|(rw [gl_len];omega)|(refine gl_take _ _ _ _ _ ?_;omega)|(rw [hn];exact List.take_of_length_le (by simp))|(rw [gl_take _ _ _ _ _ rfl];refine congrArg (gl seed x y) ?_;omega)|(rw [hgl];done)|(rw [hgl];omega)|omega|(refine congrArg _ ?_;omega)
   ·intro c hc
    by_cases hlc : c < 8
    ·have hn:=gl_next seed x y r c hlc
     have hgl:=gl_len seed x y (8 * r + c)
     generalize gl seed x y (8 * r + c) = L at *
     conv=>whnf
     repeat' (first|exact trivial|((first|refine kL ?_|(refine ⟨fun hb=>?_,fun hb=>?_⟩<;>(try simp only [nrm] at hb)<;>try exact kZ hb)|(refine isE 119 ?_;refine kE (chunk1_ev seed (x * 8 + c) (y * 8 + r) cx cy L (8 * r + c) hgl.symm (by omega) (by omega) (by omega) (by omega) (by omega)) [(0,0),(2,2),(1,350001),(390001,350003)] rfl ?_)|(refine isD 119 ?_;refine kF (chunk1_ev seed (x * 8 + c) (y * 8 + r) cx cy L (8 * r + c) hgl.symm (by omega) (by omega) (by omega) (by omega) (by omega)) [(0,0),(2,2),(1,350001),(390001,350003)] rfl ?_)|refine kV ?_)<;>(conv=>whnf))|refine kY ?_ ?_)
     refine .to (c + 1) (by omega) (by omega) ?_
     conv=>whnf
     repeat' (first|exact trivial|((first|(refine ⟨fun hb=>?_,fun hb=>?_⟩<;>(try simp only [nrm] at hb)<;>try exact kZ hb)|refine kV ?_)<;>(conv=>whnf))|refine kY ?_ ?_)
     all_goals first|exact gl_zero _ _ _|(rw [gl_len];done)|(rw [gl_len];omega)|(refine gl_take _ _ _ _ _ ?_;omega)|(rw [hn];exact List.take_of_length_le (by simp))|(rw [gl_take _ _ _ _ _ rfl];refine congrArg (gl seed x y) ?_;omega)|(rw [hgl];done)|(rw [hgl];omega)|omega|(refine congrArg _ ?_;omega)
    ·obtain rfl : c = 8:=by omega
     conv=>whnf
     repeat' (first|exact trivial|((first|(refine ⟨fun hb=>?_,fun hb=>?_⟩<;>(try simp only [nrm] at hb)<;>try exact kZ hb)|refine kV ?_)<;>(conv=>whnf))|refine kY ?_ ?_)
     refine .to (r + 1) (by omega) (by omega) ?_
     conv=>whnf
     repeat' (first|exact trivial|((first|(refine ⟨fun hb=>?_,fun hb=>?_⟩<;>(try simp only [nrm] at hb)<;>try exact kZ hb)|refine kV ?_)<;>(conv=>whnf))|refine kY ?_ ?_)
     all_goals first|exact gl_zero _ _ _|(rw [gl_len];done)|(rw [gl_len];omega)|(refine gl_take _ _ _ _ _ ?_;omega)|(rw [hn];exact List.take_of_length_le (by simp))|(rw [gl_take _ _ _ _ _ rfl];refine congrArg (gl seed x y) ?_;omega)|(rw [hgl];done)|(rw [hgl];omega)|omega|(refine congrArg _ ?_;omega)
  ·obtain rfl : r = 8:=by omega
   conv=>whnf
   repeat' (first|exact trivial|((first|(refine ⟨fun hb=>?_,fun hb=>?_⟩<;>(try simp only [nrm] at hb)<;>try exact kZ hb)|refine kV ?_)<;>(conv=>whnf))|refine kY ?_ ?_)
   all_goals first|exact gl_zero _ _ _|(rw [gl_len];done)|(rw [gl_len];omega)|(refine gl_take _ _ _ _ _ ?_;omega)|(rw [hn];exact List.take_of_length_le (by simp))|(rw [gl_take _ _ _ _ _ rfl];refine congrArg (gl seed x y) ?_;omega)|(rw [hgl];done)|(rw [hgl];omega)|omega|(refine congrArg _ ?_;omega)
open Go Go.RowKit Eng
def genC (seed x y : Int) : Chunk:=⟨x,y,gl seed x y 64,[],[]⟩
theorem genchunk_api (seed x y : Int) (hx : 0 ≤ x) (hx2 : x ≤ 15) (hy : 0 ≤ y) (hy2 : y ≤ 15) : Api Tryz.prog 48 [.lit (.int .u64 seed),i64 x,i64 y] (chunkV (genC seed x y)):=by
 refine aF Tryz.func48 24 ?_
 conv=>whnf
 repeat' (first|exact trivial|((first|refine kL ?_|(refine ⟨fun hb=>?_,fun hb=>?_⟩<;>(try simp only [nrm] at hb)<;>try exact kZ hb)|(refine isE 118 ?_;refine kE (each_ev seed x y x y hx hx2 hy hy2) [(0,14),(2,6),(390001,150001)] rfl ?_)|(refine isD 118 ?_;refine kF (each_ev seed x y x y hx hx2 hy hy2) [(0,14),(2,6),(390001,150001)] rfl ?_)|refine kV ?_)<;>(conv=>whnf))|refine kY ?_ ?_)
 all_goals first|omega|(rw [gl_len];omega)|(rw [gl_len];exact Nat.le_refl _)|(refine gl_take _ _ _ _ _ ?_;omega)|trace_state
open Go Go.RowKit Eng
def atC (x y : Int) : Chunk:=⟨x,y,[],[],[]⟩
def bsC (l : List Chunk) (x y : Int) : Nat:=bsGo (fun k=>decide (orderI (elt .chunk l k) (atC x y) < 0)) 0 l.length
def fdC (l : List Chunk) (x y : Int) : Bool:=decide (bsC l x y < l.length) && (orderI (elt .chunk l (bsC l x y)) (atC x y) == 0)
theorem order2_api (a : Chunk) (x y : Int) : Api Tryz.prog 58 [.agg (cells .chunk a),.agg [i64 x,i64 y,.lit (.slice none 0 0),.lit (.slice none 0 0),.lit (.slice none 0 0)]] (i64 (orderI a (atC x y))):=by
 refine aF Tryz.func58 15 ?_
 conv=>whnf
 repeat' (first|exact trivial|((first|refine kL ?_|(refine ⟨fun hb=>?_,fun hb=>?_⟩<;>(try simp only [nrm] at hb)<;>try exact kZ hb)|(refine isE 134 ?_;refine kE (or_ev (cmpI a.y y) (cmpI a.x x)) [(1,31)] rfl ?_)|(refine isD 134 ?_;refine kF (or_ev (cmpI a.y y) (cmpI a.x x)) [(1,31)] rfl ?_)|(refine isE 135 ?_;refine kA (cmp_api _ _) ?_)|(refine isD 135 ?_;refine kD (cmp_api _ _) ?_)|refine kV ?_)<;>(conv=>whnf))|refine kY ?_ ?_)
theorem bsearchC_api (l : List (El .chunk)) (x y : Int) (hl : l.length ≤ 4000000000000000000) : Api Tryz.prog 121 [.vec .chunk l,.agg [i64 x,i64 y,.lit (.slice none 0 0),.lit (.slice none 0 0),.lit (.slice none 0 0)],.lit (.func (.func 58) #[] #[])] (.tup [i64 (bsC l x y),bol (fdC l x y)]):=by
 refine aF Tryz.func121 46 ?_
 conv=>whnf
 refine Runs.loopS cfg_ok (σ:=Nat × Nat) [0,2,4,8,9,10] (fun (i,j)=>[.vec .chunk l,.lit (.func (.func 58) #[] #[]),.ptr 8 0,i64 l.length,i64 i,i64 j]) (fun _=>[(8,.box [i64 x,i64 y,.lit (.slice none 0 0),.lit (.slice none 0 0),.lit (.slice none 0 0)])]) (fun (i,j)=>i ≤ j ∧ j ≤ l.length ∧ bsGo (fun k=>decide (orderI (elt .chunk l k) (atC x y) < 0)) i j = bsC l x y) (fun (i,j)=>j - i) (0,l.length) ⟨by omega,by omega,rfl⟩ ?_ ?_
 ·exact fD0
 ·rintro ⟨i,j⟩ ⟨h1,h2,h3⟩
  conv=>whnf
  repeat' (first|exact trivial|((first|refine kL ?_|(refine ⟨fun hb=>?_,fun hb=>?_⟩<;>(try simp only [nrm] at hb)<;>try exact kZ hb)|(rw [shr1])|(refine isE 58 ?_;refine kA (order2_api _ _ _) ?_)|(refine isD 58 ?_;refine kD (order2_api _ _ _) ?_)|refine kV ?_)<;>(conv=>whnf))|refine kY ?_ ?_)
  ·refine .to ((i + j) / 2 + 1,j) ⟨by omega,h2,by rw [← h3,bsGo_lo (i:=i) (j:=j) (by omega) (decide_eq_true hb)]⟩ (by dsimp only;omega) ?_
   exact fD0
  ·refine .to (i,(i + j) / 2) ⟨by omega,by omega,by rw [← h3,bsGo_hi (i:=i) (j:=j) (by omega) (decide_eq_false (Int.not_lt.2 hb))]⟩ (by dsimp only;omega) ?_
   exact fD0
  all_goals
   obtain rfl : i = j:=by omega
   rw [bsGo_end (by omega)] at h3
   subst h3
  ·rfl
  ·unfold fdC
   rw [decide_eq_true (by omega)];refine congrArg Value.bool ?_;rw [Bool.true_and,Bool.eq_iff_iff,beq_iff_eq,beq_iff_eq];rfl
  ·rfl
  ·unfold fdC
   rw [decide_eq_false (by omega)];rfl
theorem wfind_api (w : Wld) (x y : Int) (hl : w.chunks.length ≤ 4000000000000000000) : Api Tryz.prog 50 [wldV w,i64 x,i64 y] (.tup [i64 (bsC w.chunks x y),bol (fdC w.chunks x y)]):=by
 refine aF Tryz.func50 13 ?_
 conv=>whnf
 repeat' (first|exact trivial|((first|refine kL ?_|(refine ⟨fun hb=>?_,fun hb=>?_⟩<;>(try simp only [nrm] at hb)<;>try exact kZ hb)|(refine isE 121 ?_;refine kA (bsearchC_api w.chunks x y hl) ?_)|(refine isD 121 ?_;refine kD (bsearchC_api w.chunks x y hl) ?_)|refine kV ?_)<;>(conv=>whnf))|refine kY ?_ ?_)
open Go Go.RowKit Eng
def insideW (size x y : Int) : Bool:=decide (0 ≤ min x y) && decide (max x y < size)
def chunkW (w : Wld) (x y : Int) : Chunk × Bool:=
 if insideW w.size x y = false ∨ rightW w = false then (atC 0 0,false)
 else if fdC w.chunks x y = true then (elt .chunk w.chunks (bsC w.chunks x y),true)
 else (genC w.seed x y,true)
theorem wchunk_api (w : Wld) (x y : Int) (hw : OkW w) : Api Tryz.prog 15 [wldV w,i64 x,i64 y] (.tup [chunkV (chunkW w x y).1,bol (chunkW w x y).2]):=by
 have hnc:=hw.nc
 have hrt:=rightW_api w hw
 have hfi:=wfind_api w x y (by omega)
 have hgo : ∀ b : Bool,insideW w.size x y = b → b = true → 0 ≤ min x y ∧ max x y < w.size:=by
  intro b hb hb2
  subst hb
  simp only [insideW,Bool.and_eq_true,decide_eq_true_eq] at hb2
  exact hb2
 cases hI : insideW w.size x y with
 | false =>
  have hs : chunkW w x y = (atC 0 0,false):=by unfold chunkW;rw [if_pos (.inl hI)]
  rw [hs]
  have hn : ¬ (0 ≤ min x y ∧ max x y < w.size):=by
   intro h
   simp only [insideW,Bool.and_eq_false_iff,decide_eq_false_iff_not] at hI
   omega
  refine aF Tryz.func15 44 ?_
  exact fD0
 | true =>
  have hin:=hgo true hI rfl
  cases hR : rightW w with
  | false =>
   rw [hR] at hrt
   have hs : chunkW w x y = (atC 0 0,false):=by unfold chunkW;rw [if_pos (.inr hR)]
   rw [hs]
   refine aF Tryz.func15 44 ?_
   exact fD0
  | true =>
   rw [hR] at hrt
   obtain ⟨_,_,hs1,hs2⟩:=rightW_players hR
   cases hF : fdC w.chunks x y with
   | false =>
    rw [hF] at hfi
    have hs : chunkW w x y = (genC w.seed x y,true):=by unfold chunkW;rw [if_neg (by rw [hI,hR];simp),if_neg (by rw [hF];simp)]
    rw [hs]
    refine aF Tryz.func15 44 ?_
    conv=>whnf
    repeat' (first|exact trivial|((first|refine kL ?_|(refine ⟨fun hb=>?_,fun hb=>?_⟩<;>(try simp only [nrm] at hb)<;>try exact kZ hb)|(refine isE 48 ?_;refine kA (genchunk_api w.seed x y (by omega) (by omega) (by omega) (by omega)) ?_)|(refine isD 48 ?_;refine kD (genchunk_api w.seed x y (by omega) (by omega) (by omega) (by omega)) ?_)|refine kV ?_)<;>(conv=>whnf))|refine kY ?_ ?_)
    all_goals first|omega|rfl|trace_state
   | true =>
    rw [hF] at hfi
    have hlt : bsC w.chunks x y < w.chunks.length:=by
     unfold fdC at hF
     simp only [Bool.and_eq_true,decide_eq_true_eq] at hF
     exact hF.1
    have hmem:=List.mem_of_getElem? (elt_get .chunk w.chunks _ hlt)
    have hs : chunkW w x y = (elt .chunk w.chunks (bsC w.chunks x y),true):=by unfold chunkW;rw [if_neg (by rw [hI,hR];simp),if_pos hF]
    rw [hs]
    have hown:=wown_api _ (hw.fit _ hmem)
    refine aF Tryz.func15 44 ?_
    exact fD0
open Go Go.RowKit Eng
open Go Go.RowKit Eng
def newW (size seed : Int) : Wld × Int:=if 1 ≤ size ∧ size ≤ 16 then (⟨size,seed,0,[],[]⟩,0) else (⟨0,0,0,[],[]⟩,2)
theorem wnew_api (size seed : Int) : Api Tryz.prog 47 [i64 size,.lit (.int .u64 seed)] (.tup [wldV (newW size seed).1,i64 (newW size seed).2]):=by
 by_cases h : 1 ≤ size ∧ size ≤ 16
 ·have hs : newW size seed = (⟨size,seed,0,[],[]⟩,0):=by unfold newW;rw [if_pos h]
  rw [hs]
  refine aF Tryz.func47 14 ?_
  exact fD0
 ·have hs : newW size seed = (⟨0,0,0,[],[]⟩,2):=by unfold newW;rw [if_neg h]
  rw [hs]
  refine aF Tryz.func47 14 ?_
  exact fD0
open Go Go.RowKit Eng
open Go Go.RowKit Eng
open Go Go.RowKit Eng
theorem order_key {a b : Chunk} (ha : 0 ≤ a.x ∧ a.x < 16) (hb : 0 ≤ b.x ∧ b.x < 16) : (orderI a b < 0 ↔ keyC a < keyC b) ∧ (orderI a b = 0 ↔ keyC a = keyC b):=by
 unfold orderI cmpOr cmpI keyC
 constructor<;>(repeat' split)<;>omega
theorem lbk_lt {α : Type} {key : α → Int} {t : Int} : ∀ {l : List α} {k : Nat} {a : α},l[k]? = some a → k < lbK key t l → key a < t:=by
 intro l
 induction l with
 | nil=>intro k a ha;simp at ha
 | cons b r ih =>
  intro k a ha hk
  simp only [lbK] at hk
  split at hk
  ·cases k with
   | zero=>simp at ha;subst ha;assumption
   | succ k=>simp at ha;exact ih ha (by omega)
  ·omega
theorem lbk_ge {α : Type} {key : α → Int} {t : Int} : ∀ {l : List α} {b : α},l[lbK key t l]? = some b → t ≤ key b:=by
 intro l
 induction l with
 | nil=>intro b hb;simp at hb
 | cons c r ih =>
  intro b hb
  simp only [lbK] at hb
  split at hb
  ·simp at hb;exact ih hb
  ·rename_i hc;simp at hb;subst hb;omega
theorem bsC_rises {l : List Chunk} (h : risesK keyC l) (hx : ∀ c ∈ l,0 ≤ c.x ∧ c.x < 16) {x y : Int} (h0 : 0 ≤ x) (h1 : x < 16) :
  bsC l x y = lbK keyC (keyC (atC x y)) l ∧ fdC l x y = (getK keyC l (keyC (atC x y))).isSome:=by
 have hat:=lbK_at (keyC (atC x y)) h
 have hle:=lbK_le keyC (keyC (atC x y)) l
 have hlt_iff : ∀ k < l.length,(orderI (elt .chunk l k) (atC x y) < 0 ↔ k < lbK keyC (keyC (atC x y)) l):=by
  intro k hk
  have hke:=elt_get .chunk l k hk
  have hm:=hx _ (List.mem_of_getElem? hke)
  rw [(order_key hm ⟨h0,h1⟩).1]
  constructor
  ·intro hlt
   by_cases hkb : k < lbK keyC (keyC (atC x y)) l
   ·exact hkb
   ·exfalso
    have hlt' : lbK keyC (keyC (atC x y)) l < l.length:=by omega
    have hbe:=elt_get .chunk l _ hlt'
    have hge:=lbk_ge hbe
    rcases Nat.eq_or_lt_of_le (Nat.le_of_not_lt hkb) with he|hl
    ·rw [← he] at hlt;omega
    ·have h3:=risesK_lt h hl hbe hke
     omega
  ·exact fun hkb=>lbk_lt hke hkb
 have e1 : bsC l x y = lbK keyC (keyC (atC x y)) l:=by
  refine bsGo_at (m:=l.length) (fun k hk=>?_) _ 0 l.length (Nat.le_refl _) (by omega) hle (Nat.le_refl _)
  rw [decide_eq_decide];exact hlt_iff k hk
 refine ⟨e1,?_⟩
 unfold fdC
 rw [e1]
 by_cases hlt : lbK keyC (keyC (atC x y)) l < l.length
 ·have hbe:=elt_get .chunk l _ hlt
  have hm:=hx _ (List.mem_of_getElem? hbe)
  rw [hbe] at hat
  simp only at hat
  rw [decide_eq_true hlt,Bool.true_and,← hat]
  by_cases he : keyC (elt .chunk l (lbK keyC (keyC (atC x y)) l)) = keyC (atC x y)
  ·rw [if_pos he];simpa using (order_key hm ⟨h0,h1⟩).2.2 he
  ·rw [if_neg he];simpa using fun hh=>he ((order_key hm ⟨h0,h1⟩).2.1 hh)
 ·rw [List.getElem?_eq_none (by omega)] at hat
  rw [decide_eq_false hlt,← hat];rfl
open Go Go.RowKit Eng
def wr (z : Int) : Int:=IntKind.i64.wrap z
def greatS (c : Chunk) (k : Nat) : Int:=(c.boxes.take k).foldl (fun n b=>wr (n + b.bag.length)) (wr (wr ((c.cells.length : Int) + c.heaps.length) + c.boxes.length))
def greatB (c : Chunk) : Bool:=decide (3000 < greatS c c.boxes.length)
theorem greatS_next {c : Chunk} {k : Nat} (h : k < c.boxes.length) : greatS c (k + 1) = wr (greatS c k + (elt .box c.boxes k).bag.length):=by
 have:=elt_get .box c.boxes k h
 unfold greatS
 rw [List.take_add_one,this]
 simp
theorem great_api (c : Chunk) (hc : OkC c) : Api Tryz.prog 12 [chunkV c] (bol (greatB c)):=by
 have hnb : c.boxes.length ≤ 9000000000000000000:=hc.nb
 refine aF Tryz.func12 33 ?_
 conv=>whnf
 repeat' (first|exact trivial|((first|refine kL ?_|(refine ⟨fun hb=>?_,fun hb=>?_⟩<;>(try simp only [nrm] at hb)<;>try exact kZ hb)|(refine .inr ?_)|refine kV ?_)<;>(conv=>whnf))|refine kY ?_ ?_)
 refine Runs.loopS cfg_ok (σ:=Nat) [1,3,18,19] (fun k=>[.ptr 2 0,i64 (greatS c k),i64 c.boxes.length,i64 k]) (fun k=>[(2,.box (chunkC c))])
  (fun k=>k ≤ c.boxes.length) (fun k=>c.boxes.length - k) 0 (by omega) ?_ ?_
 ·exact fD0
 ·intro k hk
  by_cases hlt : k < c.boxes.length
  ·conv=>whnf
   repeat' (first|exact trivial|((first|refine kL ?_|(refine ⟨fun hb=>?_,fun hb=>?_⟩<;>(try simp only [nrm] at hb)<;>try exact kZ hb)|(refine .inr ?_)|refine kV ?_)<;>(conv=>whnf))|refine kY ?_ ?_)
   refine .to (k + 1) hlt (by omega) ?_
   conv=>whnf
   repeat' (first|exact trivial|((first|(refine ⟨fun hb=>?_,fun hb=>?_⟩<;>(try simp only [nrm] at hb)<;>try exact kZ hb)|refine kV ?_)<;>(conv=>whnf))|refine kY ?_ ?_)
   rw [greatS_next hlt];rfl
  ·obtain rfl : k = c.boxes.length:=by omega
   exact fD0
open Go Go.RowKit Eng
theorem any_drop {tt : Ty} {f : El tt → Bool} {l : List (El tt)} {k : Nat} (h : k < l.length) : (l.drop k).any f = (f (elt tt l k) || (l.drop (k + 1)).any f):=by
 rw [drop_elt (t:=tt) h,List.any_cons]
open Go Go.RowKit Eng
theorem rightB_pos {c : Chunk} (h : rightB c = true) : 0 ≤ c.x ∧ 0 ≤ c.y ∧ c.x < 16 ∧ c.y < 16:=by
 simp only [rightB,headB,Bool.and_eq_true,decide_eq_true_eq] at h
 omega
theorem wrongC_false {s : Int} {c : Chunk} : wrongC s c = false ↔ rightB c = true ∧ max c.x c.y < s:=by
 simp only [wrongC,Bool.or_eq_false_iff,decide_eq_false_iff_not,Bool.not_eq_false']
 constructor
 ·rintro ⟨h1,h2⟩;exact ⟨h2,by omega⟩
 ·rintro ⟨h1,h2⟩;exact ⟨by omega,h1⟩
theorem badP_false {s : Int} {p : Player} : badP s p = false ↔ soundB p = true ∧ withinW s p.x p.y = true:=by
 simp only [badP,Bool.or_eq_false_iff,Bool.not_eq_false']
theorem any_iff {α : Type} {f : α → Bool} {l : List α} : (!(l.any f)) = true ↔ ∀ a ∈ l,f a = false:=by
 rw [Bool.not_eq_true',List.any_eq_false]
 exact ⟨fun h a ha=>by simpa using h a ha,fun h a ha=>by simp [h a ha]⟩
structure RW (w : Wld) : Prop where
 head : headW w = true
 chunks : ∀ c ∈ w.chunks,rightB c = true ∧ max c.x c.y < w.size
 rc : risesK keyC w.chunks
 rp : risesK pid w.players
 players : ∀ p ∈ w.players,soundB p = true ∧ withinW w.size p.x p.y = true
theorem rightW_iff {w : Wld} : rightW w = true ↔ RW w:=by
 unfold rightW
 rw [Bool.and_eq_true,Bool.and_eq_true,Bool.and_eq_true,Bool.and_eq_true,any_iff,any_iff]
 constructor
 ·rintro ⟨h1,h2,h3,h4,h5⟩
  have hc : ∀ c ∈ w.chunks,rightB c = true ∧ max c.x c.y < w.size:=fun c hc=>wrongC_false.1 (h2 c hc)
  exact ⟨h1,hc,(rises_ofC fun c hm=>by have:=rightB_pos (hc c hm).1;omega).1 h3,rises_of.1 h4,fun p hp=>badP_false.1 (h5 p hp)⟩
 ·rintro ⟨h1,hc,h3,h4,h5⟩
  exact ⟨h1,fun c hm=>wrongC_false.2 (hc c hm),(rises_ofC fun c hm=>by have:=rightB_pos (hc c hm).1;omega).2 h3,rises_of.2 h4,fun p hp=>badP_false.2 (h5 p hp)⟩
theorem RW.size {w : Wld} (h : RW w) : 1 ≤ w.size ∧ w.size ≤ 16 ∧ 0 ≤ w.tick ∧ w.tick ≤ 1099511627776 ∧ w.players.length ≤ 32:=by
 have:=h.head
 simp only [headW,Bool.and_eq_true,decide_eq_true_eq] at this
 omega
theorem RW.xy {w : Wld} (h : RW w) : ∀ c ∈ w.chunks,0 ≤ c.x ∧ c.x < 16:=fun c hc=>by
 have:=rightB_pos (h.chunks c hc).1
 omega
theorem getK_self_del {α : Type} {key : α → Int} {l : List α} {t : Int} (h : risesK key l) : getK key (delK key t l) t = none:=by
 rw [getK_del h,if_pos rfl]
def setL (l : List Player) (p : Player) : List Player:=insK pid p (delK pid p.id l)
theorem getK_setL {l : List Player} {p : Player} (h : risesK pid l) (t : Int) : getK pid (setL l p) t = if t = p.id then some p else getK pid l t:=by
 unfold setL
 rw [getK_ins (getK_self_del h),getK_del h]
 change (if t = p.id then _ else _) = _
 split<;>rfl
theorem risesK_setL {l : List Player} {p : Player} (h : risesK pid l) : risesK pid (setL l p):=risesK_ins (risesK_del h) (getK_self_del h)
def setOk (w : Wld) (p : Player) : Prop:=RW w ∧ soundB p = true ∧ withinW w.size p.x p.y = true ∧ ((getK pid w.players p.id).isSome = true ∨ w.players.length < 32)
theorem set_eq {w : Wld} {p : Player} (h : setOk w p) : setW w p = (withP w (setL w.players p),0):=by
 obtain ⟨hR,hS,hI,hl⟩:=h
 have hRr:=rightW_iff.2 hR
 unfold setW
 rw [if_neg (by rw [hRr];simp),if_neg (by rw [hS,hI];simp)]
 by_cases hs : (getK pid w.players p.id).isSome = true
 ·rw [if_pos hs]
  have:=upd_eqK (key:=pid) p w.players hR.rp hs
  change w.players.set (lbK pid p.id w.players) p = setL w.players p at this
  rw [this]
 ·rw [if_neg hs,if_neg (by rcases hl with h|h;exact absurd h hs;omega)]
  have h1:=ins_eqK pid p w.players
  change w.players.take (lbK pid p.id w.players) ++ p :: w.players.drop (lbK pid p.id w.players) = insK pid p w.players at h1
  unfold setL
  rw [h1,del_eqK hR.rp,if_neg hs]
theorem set_err (w : Wld) (p : Player) : (setOk w p ∧ (setW w p).2 = 0) ∨ ((setW w p).1 = w ∧ ((setW w p).2 = 113 ∧ rightW w = false ∨ (setW w p).2 = 110 ∧ RW w ∧ (soundB p = false ∨ withinW w.size p.x p.y = false) ∨ (setW w p).2 = 3 ∧ RW w ∧ (soundB p = true ∧ withinW w.size p.x p.y = true ∧ getK pid w.players p.id = none ∧ 32 ≤ w.players.length))):=by
 cases hR : rightW w with
 | false=>exact .inr (by unfold setW;rw [if_pos hR];exact ⟨rfl,.inl ⟨rfl,rfl⟩⟩)
 | true =>
  have hR':=rightW_iff.1 hR
  by_cases h : soundB p = false ∨ withinW w.size p.x p.y = false
  ·refine .inr ?_
   unfold setW
   rw [if_neg (by rw [hR];simp),if_pos h]
   exact ⟨rfl,.inr (.inl ⟨rfl,hR',h⟩)⟩
  ·have hS : soundB p = true:=by
    cases hB : soundB p with
    | true=>rfl
    | false=>exact absurd (.inl hB) h
   have hI : withinW w.size p.x p.y = true:=by
    cases hB : withinW w.size p.x p.y with
    | true=>rfl
    | false=>exact absurd (.inr hB) h
   by_cases hs : (getK pid w.players p.id).isSome = true
   ·have ho : setOk w p:=⟨hR',hS,hI,.inl hs⟩
    exact .inl ⟨ho,by rw [set_eq ho]⟩
   ·by_cases hl : 32 ≤ w.players.length
    ·refine .inr ?_
     unfold setW
     rw [if_neg (by rw [hR];simp),if_neg h,if_neg hs,if_pos hl]
     exact ⟨rfl,.inr (.inr ⟨rfl,hR',hS,hI,by simpa using hs,hl⟩)⟩
    ·have ho : setOk w p:=⟨hR',hS,hI,.inr (by omega)⟩
     exact .inl ⟨ho,by rw [set_eq ho]⟩
theorem set_comm {w : Wld} {p q : Player} (hR : RW w) (hne : p.id ≠ q.id) : setL (setL w.players p) q = setL (setL w.players q) p:=by
 refine risesK_ext (risesK_setL (risesK_setL hR.rp)) (risesK_setL (risesK_setL hR.rp)) fun t=>?_
 rw [getK_setL (risesK_setL hR.rp),getK_setL hR.rp,getK_setL (risesK_setL hR.rp),getK_setL hR.rp]
 by_cases h1 : t = q.id
 ·have h2 : ¬ t = p.id:=fun h2=>hne (h2.symm.trans h1)
  simp only [if_pos h1,if_neg h2]
 ·simp only [if_neg h1]
end Go.Proofs.YtaecchphjploaaaGreat
