/- Contracts of gen and world. -/
import Derived.Test.YtkojlembanldcaaGreatGe
import Derived.Test.YtkojlembanldcaaGreatGd
set_option linter.unusedSimpArgs false
set_option linter.unusedVariables false
set_option maxRecDepth 100000
set_option maxHeartbeats 16000000
namespace Go.Proofs.YtkojlembanldcaaGreat
open Go Go.RowKit Eng
def w64 (z : Int) : Int:=IntKind.u64.wrap z
def rm (by_ k x : Int) : Int:=w64 (gm .xor .u64 x (x.fdiv (2 ^ min by_.toNat IntKind.u64.bits)) * k)
def jR (seed n : Int) : Int:=w64 (seed + w64 (w64 (n + 1) * 11400714819323198485))
def jS (seed n : Int) : Int:=rm 30 13787848793156543929 (jR seed n)
def js (seed n : Int) : Int:=rm 27 10723151780598845931 (jS seed n)
def gJ (seed n : Int) : Int:=gm .xor .u64 (js seed n) ((js seed n).fdiv (2 ^ min (Int.toNat 31) IntKind.u64.bits))
theorem rq (s n : Int) : 0 ≤ gJ s n ∧ gJ s n ≤ 18446744073709551615:=by
 unfold gJ gm
 simp only
 generalize (BitVec.ofInt _ _ ^^^ BitVec.ofInt _ _) = b
 have : b.toNat < 2 ^ 64:=b.isLt
 rw [show IntKind.u64.wrap (b.toNat : Int) = (b.toNat : Int) from by
  have h:=IntWalk.u64_in (b.toNat : Int) (by omega)
  exact h]
 omega
theorem rt (seed n : Int) : Api Tryz.prog 214 [.lit (.int .u64 seed),.lit (.int .u64 n)] (.lit (.int .u64 (gJ seed n))):=by
 have h3 : gJ seed n = gm .xor .u64 (js seed n) ((js seed n).fdiv (2 ^ min (Int.toNat 31) IntKind.u64.bits)):=by unfold gJ;rfl
 have h2 : js seed n = IntKind.u64.wrap (gm .xor .u64 (jS seed n) ((jS seed n).fdiv (2 ^ min (Int.toNat 27) IntKind.u64.bits)) * 10723151780598845931):=by unfold js rm w64;rfl
 have h1 : jS seed n = IntKind.u64.wrap (gm .xor .u64 (jR seed n) ((jR seed n).fdiv (2 ^ min (Int.toNat 30) IntKind.u64.bits)) * 13787848793156543929):=by unfold jS rm w64;rfl
 have h0 : jR seed n = IntKind.u64.wrap (seed + IntKind.u64.wrap (IntKind.u64.wrap (n + 1) * 11400714819323198485)):=by unfold jR w64;rfl
 generalize gJ seed n = x3 at *
 generalize js seed n = x2 at *
 generalize jS seed n = x1 at *
 generalize jR seed n = x0 at *
 refine aF Tryz.func214 31 ?_
 conv=>whnf
 repeat' (first|exact trivial|((first|refine kL ?_|(refine ⟨fun hb=>?_,fun hb=>?_⟩<;>(try simp only [nrm] at hb)<;>try exact kZ hb)|(refine .inr ?_)|refine kV ?_)<;>(conv=>whnf))|refine kY ?_ ?_)
 refine ap.loopS ah (σ:=Nat) [5,15,16] (fun k=>[.lit (.int .u64 (if k = 0 then x0 else if k = 1 then x1 else x2)),.agg [i64 30,.lit (.int .u64 13787848793156543929),i64 27,.lit (.int .u64 10723151780598845931)],i64 k]) (fun _=>[]) (fun k=>k ≤ 2) (fun k=>2 - k) 0 (by omega) ?_ ?_
 ·conv=>whnf
  repeat' (first|exact trivial|((first|(refine ⟨fun hb=>?_,fun hb=>?_⟩<;>(try simp only [nrm] at hb)<;>try exact kZ hb)|refine kV ?_)<;>(conv=>whnf))|refine kY ?_ ?_)
  all_goals (refine congrArg (Value.int .u64) ?_;simp only [if_true,if_neg (show ¬ (1:Nat) = 0 by decide),if_neg (show ¬ (2:Nat) = 0 by decide),if_neg (show ¬ (2:Nat) = 1 by decide)];exact h0.symm)
 ·intro k hk
  match k,hk with
  | 0,_ =>
   conv=>whnf
   repeat' (first|exact trivial|((first|refine kL ?_|(refine ⟨fun hb=>?_,fun hb=>?_⟩<;>(try simp only [nrm] at hb)<;>try exact kZ hb)|(refine .inr ?_)|refine kV ?_)<;>(conv=>whnf))|refine kY ?_ ?_)
   refine .to 1 (by omega) (by omega) ?_
   conv=>whnf
   repeat' (first|exact trivial|((first|(refine ⟨fun hb=>?_,fun hb=>?_⟩<;>(try simp only [nrm] at hb)<;>try exact kZ hb)|refine kV ?_)<;>(conv=>whnf))|refine kY ?_ ?_)
   all_goals (refine congrArg (Value.int .u64) ?_;simp only [if_true,if_neg (show ¬ (1:Nat) = 0 by decide),if_neg (show ¬ (2:Nat) = 0 by decide),if_neg (show ¬ (2:Nat) = 1 by decide)];exact h1.symm)
  | 1,_ =>
   conv=>whnf
   repeat' (first|exact trivial|((first|refine kL ?_|(refine ⟨fun hb=>?_,fun hb=>?_⟩<;>(try simp only [nrm] at hb)<;>try exact kZ hb)|(refine .inr ?_)|refine kV ?_)<;>(conv=>whnf))|refine kY ?_ ?_)
   refine .to 2 (by omega) (by omega) ?_
   conv=>whnf
   repeat' (first|exact trivial|((first|(refine ⟨fun hb=>?_,fun hb=>?_⟩<;>(try simp only [nrm] at hb)<;>try exact kZ hb)|refine kV ?_)<;>(conv=>whnf))|refine kY ?_ ?_)
   all_goals (refine congrArg (Value.int .u64) ?_;simp only [if_true,if_neg (show ¬ (1:Nat) = 0 by decide),if_neg (show ¬ (2:Nat) = 0 by decide),if_neg (show ¬ (2:Nat) = 1 by decide)];exact h2.symm)
  | 2,_ =>
   conv=>whnf
   repeat' (first|exact trivial|((first|refine kL ?_|(refine ⟨fun hb=>?_,fun hb=>?_⟩<;>(try simp only [nrm] at hb)<;>try exact kZ hb)|(refine .inr ?_)|refine kV ?_)<;>(conv=>whnf))|refine kY ?_ ?_)
   all_goals (refine congrArg (Value.int .u64) ?_;simp only [if_true,if_neg (show ¬ (1:Nat) = 0 by decide),if_neg (show ¬ (2:Nat) = 0 by decide),if_neg (show ¬ (2:Nat) = 1 by decide)];exact h3.symm)
open Go Go.RowKit Eng
def lO (seed x : Int) : Int:=40 + gJ seed (100000 + x / 8) % 32
theorem DH (s x : Int) : 40 ≤ lO s x ∧ lO s x ≤ 71:=by unfold lO;omega
theorem uf (seed x : Int) (hx : 0 ≤ x) (hx2 : x ≤ 127) : Api Tryz.prog 215 [.lit (.int .u64 seed),i64 x] (i64 (lO seed x)):=by
 have hm:=rq seed (100000 + x / 8)
 refine aF Tryz.func215 12 ?_
 conv=>whnf
 repeat' (first|exact trivial|((first|refine kL ?_|(refine ⟨fun hb=>?_,fun hb=>?_⟩<;>(try simp only [nrm] at hb)<;>try exact kZ hb)|(refine isE 214 ?_;refine kA (rt seed _) ?_)|(refine isD 214 ?_;refine kD (rt seed _) ?_)|refine kV ?_)<;>(conv=>whnf))|refine kY ?_ ?_)
 all_goals trace_state
def jt (seed x y : Int) : Int:=
 let m:=gJ seed (y * 128 + x)
 let under:=y - lO seed x
 if under = -1 ∧ m % 11 = 0 then 4
 else if under = -1 ∧ m % 11 = 1 then 3
 else if under < 0 then 0
 else if under ≤ 2 then 1
 else if m % 7 = 0 then 7
 else 2
theorem zH (seed x y : Int) (hx : 0 ≤ x) (hx2 : x ≤ 127) (hy : 0 ≤ y) (hy2 : y ≤ 127) : Api Tryz.prog 151 [.lit (.int .u64 seed),i64 x,i64 y] (.lit (.int .u8 (jt seed x y))):=by
 have hm:=rq seed (y * 128 + x)
 have hh:=DH seed x
 refine aF Tryz.func151 54 ?_
 conv=>whnf
 repeat' (first|exact trivial|((first|refine kL ?_|(refine ⟨fun hb=>?_,fun hb=>?_⟩<;>(try simp only [nrm] at hb)<;>try exact kZ hb)|(refine isE 214 ?_;refine kA (rt seed _) ?_)|(refine isD 214 ?_;refine kD (rt seed _) ?_)|(refine isE 215 ?_;refine kA (uf seed x hx hx2) ?_)|(refine isD 215 ?_;refine kD (uf seed x hx hx2) ?_)|refine kV ?_)<;>(conv=>whnf))|refine kY ?_ ?_)
 all_goals first
  | omega
  | (refine congrArg (Value.int .u8) ?_;unfold jt;simp only [];generalize gJ seed (y * 128 + x) = M at *;generalize lO seed x = H at *;(repeat' split)<;>omega)
open Go Go.RowKit Eng
def gl (seed x y : Int) (k : Nat) : List Int:=(List.range k).map fun j=>jt seed (x * 8 + (j % 8 : Nat)) (y * 8 + (j / 8 : Nat))
theorem dL (seed x y : Int) (k : Nat) : (gl seed x y k).length = k:=by unfold gl;simp
theorem fY (seed x y : Int) (n k : Nat) (h : k = n) : List.take n (gl seed x y k) = gl seed x y n:=by subst h;exact List.take_of_length_le (by rw [dL];exact Nat.le_refl _)
theorem nI (seed x y : Int) : gl seed x y 0 = []:=rfl
theorem Jx (seed x y : Int) (r c : Nat) (hc : c < 8) : gl seed x y (8 * r + (c + 1)) = gl seed x y (8 * r + c) ++ [jt seed (x * 8 + c) (y * 8 + r)]:=by
 unfold gl
 rw [← Nat.add_assoc,List.range_succ,List.map_append,List.map_singleton,show (8 * r + c) % 8 = c by omega,show (8 * r + c) / 8 = r by omega]
theorem wA (seed x y cx cy : Int) (l : List (El .u8)) (n : Nat) (hn : n = l.length) (hl : l.length ≤ 64) (hx : 0 ≤ x) (hx2 : x ≤ 127) (hy : 0 ≤ y) (hy2 : y ≤ 127) : Ev1 Tryz.prog 150 [i64 x,i64 y,.ptr 0 0,.ptr 2 0] [(0,.box [i64 cx,i64 cy,.own .u8 1 0 n none,.lit (.slice none 0 0),.lit (.slice none 0 0)]),(2,.box [.lit (.int .u64 seed)]),(1,.row .u8 l)] (.tup []) [(0,.box [i64 cx,i64 cy,.own .u8 390001 0 (l.length + 1) none,.lit (.slice none 0 0),.lit (.slice none 0 0)]),(2,.box [.lit (.int .u64 seed)]),(390001,.row .u8 (l ++ [jt seed x y]))]:=by
 subst hn
 refine eF Tryz.func150 11 ?_
 conv=>whnf
 repeat' (first|exact trivial|((first|refine kL ?_|(refine ⟨fun hb=>?_,fun hb=>?_⟩<;>(try simp only [nrm] at hb)<;>try exact kZ hb)|(refine isE 151 ?_;refine kA (zH seed x y hx hx2 hy hy2) ?_)|(refine isD 151 ?_;refine kD (zH seed x y hx hx2 hy hy2) ?_)|refine kV ?_)<;>(conv=>whnf))|refine kY ?_ ?_)
 all_goals (rw [List.take_length];refine List.take_of_length_le ?_;simp)
theorem Cd (seed x y cx cy : Int) (hx : 0 ≤ x) (hx2 : x ≤ 15) (hy : 0 ≤ y) (hy2 : y ≤ 15) : Ev1 Tryz.prog 149 [i64 x,i64 y,.clo (.func 150) [] [.ptr 0 0,.ptr 2 0]] [(0,.box [i64 cx,i64 cy,.lit (.slice none 0 0),.lit (.slice none 0 0),.lit (.slice none 0 0)]),(2,.box [.lit (.int .u64 seed)])] (.tup []) [(0,.box [i64 cx,i64 cy,.own .u8 390001 0 64 none,.lit (.slice none 0 0),.lit (.slice none 0 0)]),(2,.box [.lit (.int .u64 seed)]),(390001,.row .u8 (gl seed x y 64))]:=by
 refine eF Tryz.func149 23 ?_
 conv=>whnf
 repeat' (first|exact trivial|((first|(refine ⟨fun hb=>?_,fun hb=>?_⟩<;>(try simp only [nrm] at hb)<;>try exact kZ hb)|refine kV ?_)<;>(conv=>whnf))|refine kY ?_ ?_)
 refine ap.loopS ah (σ:=Nat) [0,1,2,8] (fun r=>[i64 x,i64 y,.clo (.func 150) [] [.ptr 0 0,.ptr 2 0],i64 r])
  (fun r=>[(0,.box [i64 cx,i64 cy,.own .u8 350001 0 (8 * r) none,.lit (.slice none 0 0),.lit (.slice none 0 0)]),(2,.box [.lit (.int .u64 seed)]),(350001,.row .u8 (gl seed x y (8 * r)))])
  (fun r=>r ≤ 8) (fun r=>8 - r) 0 (by omega) ?_ ?_
 ·conv=>whnf
  repeat' (first|exact trivial|((first|(refine ⟨fun hb=>?_,fun hb=>?_⟩<;>(try simp only [nrm] at hb)<;>try exact kZ hb)|refine kV ?_)<;>(conv=>whnf))|refine kY ?_ ?_)
  all_goals first|exact nI _ _ _|(rw [dL];done)|(rw [dL];omega)|(refine fY _ _ _ _ _ ?_;omega)|(rw [hn];exact List.take_of_length_le (by simp))|(rw [fY _ _ _ _ _ rfl];refine congrArg (gl seed x y) ?_;omega)|(rw [hgl];done)|(rw [hgl];omega)|omega|(refine congrArg _ ?_;omega)
 ·intro r hr
  by_cases hlt : r < 8
  ·conv=>whnf
   repeat' (first|exact trivial|((first|(refine ⟨fun hb=>?_,fun hb=>?_⟩<;>(try simp only [nrm] at hb)<;>try exact kZ hb)|refine kV ?_)<;>(conv=>whnf))|refine kY ?_ ?_)
   refine ap.loopS ah (σ:=Nat) [0,1,2,6,8,11] (fun c=>[i64 x,i64 y,.clo (.func 150) [] [.ptr 0 0,.ptr 2 0],i64 r,i64 r,i64 c])
    (fun c=>[(0,.box [i64 cx,i64 cy,.own .u8 350001 0 (8 * r + c) none,.lit (.slice none 0 0),.lit (.slice none 0 0)]),(2,.box [.lit (.int .u64 seed)]),(350001,.row .u8 (gl seed x y (8 * r + c)))])
    (fun c=>c ≤ 8) (fun c=>8 - c) 0 (by omega) ?_ ?_
   ·conv=>whnf
    repeat' (first|exact trivial|((first|(refine ⟨fun hb=>?_,fun hb=>?_⟩<;>(try simp only [nrm] at hb)<;>try exact kZ hb)|refine kV ?_)<;>(conv=>whnf))|refine kY ?_ ?_)
    all_goals first|exact nI _ _ _|(rw [dL];done)|(rw [dL];omega)|(refine fY _ _ _ _ _ ?_;omega)|(rw [hn];exact List.take_of_length_le (by simp))|(rw [fY _ _ _ _ _ rfl];refine congrArg (gl seed x y) ?_;omega)|(rw [hgl];done)|(rw [hgl];omega)|omega|(refine congrArg _ ?_;omega)
   ·intro c hc
    by_cases hlc : c < 8
    ·have hn:=Jx seed x y r c hlc
     have hgl:=dL seed x y (8 * r + c)
     generalize gl seed x y (8 * r + c) = L at *
     conv=>whnf
     repeat' (first|exact trivial|((first|refine kL ?_|(refine ⟨fun hb=>?_,fun hb=>?_⟩<;>(try simp only [nrm] at hb)<;>try exact kZ hb)|(refine isE 150 ?_;refine kE (wA seed (x * 8 + c) (y * 8 + r) cx cy L (8 * r + c) hgl.symm (by omega) (by omega) (by omega) (by omega) (by omega)) [(0,0),(2,2),(1,350001),(390001,350003)] rfl ?_)|(refine isD 150 ?_;refine kF (wA seed (x * 8 + c) (y * 8 + r) cx cy L (8 * r + c) hgl.symm (by omega) (by omega) (by omega) (by omega) (by omega)) [(0,0),(2,2),(1,350001),(390001,350003)] rfl ?_)|refine kV ?_)<;>(conv=>whnf))|refine kY ?_ ?_)
     refine .to (c + 1) (by omega) (by omega) ?_
     conv=>whnf
     repeat' (first|exact trivial|((first|(refine ⟨fun hb=>?_,fun hb=>?_⟩<;>(try simp only [nrm] at hb)<;>try exact kZ hb)|refine kV ?_)<;>(conv=>whnf))|refine kY ?_ ?_)
     all_goals first|exact nI _ _ _|(rw [dL];done)|(rw [dL];omega)|(refine fY _ _ _ _ _ ?_;omega)|(rw [hn];exact List.take_of_length_le (by simp))|(rw [fY _ _ _ _ _ rfl];refine congrArg (gl seed x y) ?_;omega)|(rw [hgl];done)|(rw [hgl];omega)|omega|(refine congrArg _ ?_;omega)
    ·obtain rfl : c = 8:=by omega
     conv=>whnf
     repeat' (first|exact trivial|((first|(refine ⟨fun hb=>?_,fun hb=>?_⟩<;>(try simp only [nrm] at hb)<;>try exact kZ hb)|refine kV ?_)<;>(conv=>whnf))|refine kY ?_ ?_)
     refine .to (r + 1) (by omega) (by omega) ?_
     conv=>whnf
     repeat' (first|exact trivial|((first|(refine ⟨fun hb=>?_,fun hb=>?_⟩<;>(try simp only [nrm] at hb)<;>try exact kZ hb)|refine kV ?_)<;>(conv=>whnf))|refine kY ?_ ?_)
     all_goals first|exact nI _ _ _|(rw [dL];done)|(rw [dL];omega)|(refine fY _ _ _ _ _ ?_;omega)|(rw [hn];exact List.take_of_length_le (by simp))|(rw [fY _ _ _ _ _ rfl];refine congrArg (gl seed x y) ?_;omega)|(rw [hgl];done)|(rw [hgl];omega)|omega|(refine congrArg _ ?_;omega)
  ·obtain rfl : r = 8:=by omega
   conv=>whnf
   repeat' (first|exact trivial|((first|(refine ⟨fun hb=>?_,fun hb=>?_⟩<;>(try simp only [nrm] at hb)<;>try exact kZ hb)|refine kV ?_)<;>(conv=>whnf))|refine kY ?_ ?_)
   all_goals first|exact nI _ _ _|(rw [dL];done)|(rw [dL];omega)|(refine fY _ _ _ _ _ ?_;omega)|(rw [hn];exact List.take_of_length_le (by simp))|(rw [fY _ _ _ _ _ rfl];refine congrArg (gl seed x y) ?_;omega)|(rw [hgl];done)|(rw [hgl];omega)|omega|(refine congrArg _ ?_;omega)
open Go Go.RowKit Eng
def eh (seed x y : Int) : Chunk:=⟨x,y,gl seed x y 64,[],[]⟩
theorem ju (seed x y : Int) (hx : 0 ≤ x) (hx2 : x ≤ 15) (hy : 0 ≤ y) (hy2 : y ≤ 15) : Api Tryz.prog 75 [.lit (.int .u64 seed),i64 x,i64 y] (bq (eh seed x y)):=by
 refine aF Tryz.func75 24 ?_
 conv=>whnf
 repeat' (first|exact trivial|((first|refine kL ?_|(refine ⟨fun hb=>?_,fun hb=>?_⟩<;>(try simp only [nrm] at hb)<;>try exact kZ hb)|(refine isE 149 ?_;refine kE (Cd seed x y x y hx hx2 hy hy2) [(0,14),(2,6),(390001,150001)] rfl ?_)|(refine isD 149 ?_;refine kF (Cd seed x y x y hx hx2 hy hy2) [(0,14),(2,6),(390001,150001)] rfl ?_)|refine kV ?_)<;>(conv=>whnf))|refine kY ?_ ?_)
 all_goals first|omega|(rw [dL];omega)|(rw [dL];exact Nat.le_refl _)|(refine fY _ _ _ _ _ ?_;omega)|trace_state
open Go Go.RowKit Eng
def atC (x y : Int) : Chunk:=⟨x,y,[],[],[]⟩
def bsC (l : List Chunk) (x y : Int) : Nat:=gW (fun k=>decide (dQ (elt .chunk l k) (atC x y) < 0)) 0 l.length
def fdC (l : List Chunk) (x y : Int) : Bool:=decide (bsC l x y < l.length) && (dQ (elt .chunk l (bsC l x y)) (atC x y) == 0)
theorem KJ (l : List Chunk) (x y : Int) : bsC l x y ≤ l.length:=(vf _ 0 l.length (Nat.le_refl _) (by omega)).2
theorem ug (a : Chunk) (x y : Int) : Api Tryz.prog 94 [.agg (cells .chunk a),.agg [i64 x,i64 y,.lit (.slice none 0 0),.lit (.slice none 0 0),.lit (.slice none 0 0)]] (i64 (dQ a (atC x y))):=by
 refine aF Tryz.func94 15 ?_
 conv=>whnf
 repeat' (first|exact trivial|((first|refine kL ?_|(refine ⟨fun hb=>?_,fun hb=>?_⟩<;>(try simp only [nrm] at hb)<;>try exact kZ hb)|(refine isE 104 ?_;refine kE (xm (bX a.y y) (bX a.x x)) [(1,31)] rfl ?_)|(refine isD 104 ?_;refine kF (xm (bX a.y y) (bX a.x x)) [(1,31)] rfl ?_)|(refine isE 105 ?_;refine kA (fl _ _) ?_)|(refine isD 105 ?_;refine kD (fl _ _) ?_)|refine kV ?_)<;>(conv=>whnf))|refine kY ?_ ?_)
theorem p9 (l : List (El .chunk)) (x y : Int) (hl : l.length ≤ 4000000000000000000) : Api Tryz.prog 145 [.vec .chunk l,.agg [i64 x,i64 y,.lit (.slice none 0 0),.lit (.slice none 0 0),.lit (.slice none 0 0)],.lit (.func (.func 94) #[] #[])] (.tup [i64 (bsC l x y),bol (fdC l x y)]):=by
 refine aF Tryz.func145 46 ?_
 conv=>whnf
 refine ap.loopS ah (σ:=Nat × Nat) [0,2,4,8,9,10] (fun (i,j)=>[.vec .chunk l,.lit (.func (.func 94) #[] #[]),.ptr 8 0,i64 l.length,i64 i,i64 j]) (fun _=>[(8,.box [i64 x,i64 y,.lit (.slice none 0 0),.lit (.slice none 0 0),.lit (.slice none 0 0)])]) (fun (i,j)=>i ≤ j ∧ j ≤ l.length ∧ gW (fun k=>decide (dQ (elt .chunk l k) (atC x y) < 0)) i j = bsC l x y) (fun (i,j)=>j - i) (0,l.length) ⟨by omega,by omega,rfl⟩ ?_ ?_
 ·exact fD0
 ·rintro ⟨i,j⟩ ⟨h1,h2,h3⟩
  conv=>whnf
  repeat' (first|exact trivial|((first|refine kL ?_|(refine ⟨fun hb=>?_,fun hb=>?_⟩<;>(try simp only [nrm] at hb)<;>try exact kZ hb)|(rw [G_])|(refine isE 94 ?_;refine kA (ug _ _ _) ?_)|(refine isD 94 ?_;refine kD (ug _ _ _) ?_)|refine kV ?_)<;>(conv=>whnf))|refine kY ?_ ?_)
  ·refine .to ((i + j) / 2 + 1,j) ⟨by omega,h2,by rw [← h3,qW (i:=i) (j:=j) (by omega) (decide_eq_true hb)]⟩ (by dsimp only;omega) ?_
   exact fD0
  ·refine .to (i,(i + j) / 2) ⟨by omega,by omega,by rw [← h3,qX (i:=i) (j:=j) (by omega) (decide_eq_false (Int.not_lt.2 hb))]⟩ (by dsimp only;omega) ?_
   exact fD0
  all_goals
   obtain rfl : i = j:=by omega
   rw [jM (by omega)] at h3
   subst h3
  ·rfl
  ·unfold fdC
   rw [decide_eq_true (by omega)];refine congrArg Value.bool ?_;rw [Bool.true_and,Bool.eq_iff_iff,beq_iff_eq,beq_iff_eq];rfl
  ·rfl
  ·unfold fdC
   rw [decide_eq_false (by omega)];rfl
theorem wB (w : Wld) (x y : Int) (hl : w.chunks.length ≤ 4000000000000000000) : Api Tryz.prog 73 [az w,i64 x,i64 y] (.tup [i64 (bsC w.chunks x y),bol (fdC w.chunks x y)]):=by
 refine aF Tryz.func73 13 ?_
 conv=>whnf
 repeat' (first|exact trivial|((first|refine kL ?_|(refine ⟨fun hb=>?_,fun hb=>?_⟩<;>(try simp only [nrm] at hb)<;>try exact kZ hb)|(refine isE 145 ?_;refine kA (p9 w.chunks x y hl) ?_)|(refine isD 145 ?_;refine kD (p9 w.chunks x y hl) ?_)|refine kV ?_)<;>(conv=>whnf))|refine kY ?_ ?_)
open Go Go.RowKit Eng
def gG (size x y : Int) : Bool:=decide (0 ≤ min x y) && decide (max x y < size)
def ba (w : Wld) (x y : Int) : Chunk × Bool:=
 if gG w.size x y = false ∨ aO w = false then (atC 0 0,false)
 else if fdC w.chunks x y = true then (elt .chunk w.chunks (bsC w.chunks x y),true)
 else (eh w.seed x y,true)
theorem uh (w : Wld) (x y : Int) (hw : OkW w) : Api Tryz.prog 31 [az w,i64 x,i64 y] (.tup [bq (ba w x y).1,bol (ba w x y).2]):=by
 have hnc:=hw.nc
 have hrt:=dA w hw
 have hfi:=wB w x y (by omega)
 have hgo : ∀ b : Bool,gG w.size x y = b → b = true → 0 ≤ min x y ∧ max x y < w.size:=by
  intro b hb hb2
  subst hb
  simp only [gG,Bool.and_eq_true,decide_eq_true_eq] at hb2
  exact hb2
 cases hI : gG w.size x y with
 | false =>
  have hs : ba w x y = (atC 0 0,false):=by unfold ba;rw [if_pos (.inl hI)]
  rw [hs]
  have hn : ¬ (0 ≤ min x y ∧ max x y < w.size):=by
   intro h
   simp only [gG,Bool.and_eq_false_iff,decide_eq_false_iff_not] at hI
   omega
  refine aF Tryz.func31 44 ?_
  exact fD0
 | true =>
  have hin:=hgo true hI rfl
  cases hR : aO w with
  | false =>
   rw [hR] at hrt
   have hs : ba w x y = (atC 0 0,false):=by unfold ba;rw [if_pos (.inr hR)]
   rw [hs]
   refine aF Tryz.func31 44 ?_
   exact fD0
  | true =>
   rw [hR] at hrt
   obtain ⟨_,_,hs1,hs2⟩:=ii hR
   cases hF : fdC w.chunks x y with
   | false =>
    rw [hF] at hfi
    have hs : ba w x y = (eh w.seed x y,true):=by unfold ba;rw [if_neg (by rw [hI,hR];simp),if_neg (by rw [hF];simp)]
    rw [hs]
    refine aF Tryz.func31 44 ?_
    conv=>whnf
    repeat' (first|exact trivial|((first|refine kL ?_|(refine ⟨fun hb=>?_,fun hb=>?_⟩<;>(try simp only [nrm] at hb)<;>try exact kZ hb)|(refine isE 75 ?_;refine kA (ju w.seed x y (by omega) (by omega) (by omega) (by omega)) ?_)|(refine isD 75 ?_;refine kD (ju w.seed x y (by omega) (by omega) (by omega) (by omega)) ?_)|refine kV ?_)<;>(conv=>whnf))|refine kY ?_ ?_)
    all_goals first|omega|rfl|trace_state
   | true =>
    rw [hF] at hfi
    have hlt : bsC w.chunks x y < w.chunks.length:=by
     unfold fdC at hF
     simp only [Bool.and_eq_true,decide_eq_true_eq] at hF
     exact hF.1
    have hmem:=List.mem_of_getElem? (ar .chunk w.chunks _ hlt)
    have hs : ba w x y = (elt .chunk w.chunks (bsC w.chunks x y),true):=by unfold ba;rw [if_neg (by rw [hI,hR];simp),if_pos hF]
    rw [hs]
    have hown:=ou _ (hw.fit _ hmem)
    refine aF Tryz.func31 44 ?_
    exact fD0
open Go Go.RowKit Eng
theorem Is {c : Chunk} (h : ai c = true) : c.cells.length = 64:=by
 simp only [ai,dP,Bool.and_eq_true,decide_eq_true_eq] at h
 omega
theorem zI {w : Wld} (h : aO w = true) {c : Chunk} (hc : c ∈ w.chunks) : ai c = true ∧ max c.x c.y < w.size:=by
 simp only [aO,Bool.and_eq_true,Bool.not_eq_true',List.any_eq_false] at h
 have:=h.2.1 c hc
 simp only [gA,Bool.or_eq_true,not_or,decide_eq_true_eq,Bool.not_eq_true',Bool.not_eq_false] at this
 exact ⟨this.2,by omega⟩
theorem ui {w : Wld} {x y : Int} (h : (ba w x y).2 = true) : (ba w x y).1.cells.length = 64:=by
 unfold ba at h ⊢
 split at h
 ·simp at h
 ·rename_i hn
  rw [if_neg hn]
  have hR : aO w = true:=by
   cases hR : aO w with
   | true=>rfl
   | false=>exact absurd (.inr hR) hn
  by_cases hF : fdC w.chunks x y = true
  ·rw [if_pos hF]
   have hlt : bsC w.chunks x y < w.chunks.length:=by
    unfold fdC at hF
    simp only [Bool.and_eq_true,decide_eq_true_eq] at hF
    exact hF.1
   exact Is (zI hR (List.mem_of_getElem? (ar .chunk w.chunks _ hlt))).1
  ·rw [if_neg hF]
   exact dL _ _ _ _
def atW (w : Wld) (x y : Int) : Int × Bool:=
 if av w.size x y = false then (0,false)
 else if (ba w (x / 8) (y / 8)).2 = false then (0,false)
 else (elt .u8 (ba w (x / 8) (y / 8)).1.cells (y % 8 * 8 + x % 8).toNat,true)
theorem FV (w : Wld) (x y : Int) (hw : OkW w) (hx1 : x ≤ 9223372036854775807) (hy1 : y ≤ 9223372036854775807) : Api Tryz.prog 34 [az w,i64 x,i64 y] (.tup [.lit (.int .u8 (atW w x y).1),bol (atW w x y).2]):=by
 have hwi:=lc w x y
 have hch:=uh w (x / 8) (y / 8) hw
 cases hI : av w.size x y with
 | false =>
  rw [hI] at hwi
  have hs : atW w x y = (0,false):=by unfold atW;rw [if_pos hI]
  rw [hs]
  refine aF Tryz.func34 33 ?_
  exact fD0
 | true =>
  rw [hI] at hwi
  have h0 : 0 ≤ min x y:=by
   simp only [av,Bool.and_eq_true,decide_eq_true_eq] at hI
   exact hI.1
  have hx : 0 ≤ x:=by omega
  have hy : 0 ≤ y:=by omega
  cases hC : (ba w (x / 8) (y / 8)).2 with
  | false =>
   rw [hC] at hch
   have hs : atW w x y = (0,false):=by unfold atW;rw [if_neg (by rw [hI];simp),if_pos hC]
   rw [hs]
   refine aF Tryz.func34 33 ?_
   exact fD0
  | true =>
   rw [hC] at hch
   have hl:=ui hC
   have hs : atW w x y = (elt .u8 (ba w (x / 8) (y / 8)).1.cells (y % 8 * 8 + x % 8).toNat,true):=by unfold atW;rw [if_neg (by rw [hI];simp),if_neg (by rw [hC];simp)]
   rw [hs]
   refine aF Tryz.func34 33 ?_
   exact fD0
open Go Go.RowKit Eng
def s9 (size seed : Int) : Wld × Int:=if 1 ≤ size ∧ size ≤ 16 then (⟨size,seed,0,[],[]⟩,0) else (⟨0,0,0,[],[]⟩,2)
theorem HV (size seed : Int) : Api Tryz.prog 58 [i64 size,.lit (.int .u64 seed)] (.tup [az (s9 size seed).1,i64 (s9 size seed).2]):=by
 by_cases h : 1 ≤ size ∧ size ≤ 16
 ·have hs : s9 size seed = (⟨size,seed,0,[],[]⟩,0):=by unfold s9;rw [if_pos h]
  rw [hs]
  refine aF Tryz.func58 14 ?_
  exact fD0
 ·have hs : s9 size seed = (⟨0,0,0,[],[]⟩,2):=by unfold s9;rw [if_neg h]
  rw [hs]
  refine aF Tryz.func58 14 ?_
  exact fD0
def eqI (a b : List Int) : Bool:=decide (a = b)
theorem sc (a b : List (El .u8)) (ha : a.length ≤ 4000000000000000000) : Api Tryz.prog 277 [.vec .u8 a,.vec .u8 b] (bol (eqI a b)):=by
 by_cases hl : a.length = b.length
 ·skip
  refine aF Tryz.func277 24 ?_
  conv=>whnf
  repeat' (first|exact trivial|((first|(refine ⟨fun hb=>?_,fun hb=>?_⟩<;>(try simp only [nrm] at hb)<;>try exact kZ hb)|refine kV ?_)<;>(conv=>whnf))|refine kY ?_ ?_)
  all_goals try omega
  refine ap.loopS ah (σ:=Nat) [0,1,12,13] (fun k=>[.vec .u8 a,.vec .u8 b,i64 a.length,i64 k]) (fun _=>[]) (fun k=>k ≤ a.length ∧ a.take k = b.take k) (fun k=>a.length - k) 0 ⟨by omega,by rw [List.take_zero,List.take_zero]⟩ ?_ ?_
  ·exact fD0
  ·rintro k ⟨hk,ht⟩
   by_cases hlt : k < a.length
   ·have ea:=ar .u8 a k hlt
    have eb:=ar .u8 b k (by omega)
    conv=>whnf
    repeat' (first|exact trivial|((first|(refine ⟨fun hb=>?_,fun hb=>?_⟩<;>(try simp only [nrm] at hb)<;>try exact kZ hb)|refine kV ?_)<;>(conv=>whnf))|refine kY ?_ ?_)
    ·rename_i hb
     refine congrArg Value.bool ?_
     unfold eqI
     rw [decide_eq_false]
     intro he
     subst he
     exact hb rfl
    ·rename_i hb
     refine .to (k + 1) ⟨by omega,?_⟩ (by omega) ?_
     ·rw [List.take_add_one,List.take_add_one,ht,ea,eb]
      have hb2 : elt .u8 a k = elt .u8 b k:=hb
      rw [hb2]
     exact fD0
   ·obtain rfl : k = a.length:=by omega
    conv=>whnf
    repeat' (first|exact trivial|((first|(refine ⟨fun hb=>?_,fun hb=>?_⟩<;>(try simp only [nrm] at hb)<;>try exact kZ hb)|refine kV ?_)<;>(conv=>whnf))|refine kY ?_ ?_)
    refine congrArg Value.bool ?_
    unfold eqI
    rw [decide_eq_true]
    rw [List.take_length,hl,List.take_length] at ht
    exact ht
 ·skip
  refine aF Tryz.func277 24 ?_
  conv=>whnf
  repeat' (first|exact trivial|((first|(refine ⟨fun hb=>?_,fun hb=>?_⟩<;>(try simp only [nrm] at hb)<;>try exact kZ hb)|refine kV ?_)<;>(conv=>whnf))|refine kY ?_ ?_)
  all_goals first|omega|(refine congrArg Value.bool ?_;unfold eqI;rw [decide_eq_false];intro he;exact hl (congrArg List.length he))
open Go Go.RowKit Eng
def dy (seed : Int) (c : Chunk) : Bool:=decide ((c.heaps.length : Int) = 0) && eqI c.cells (gl seed c.x c.y 64)
theorem FW (w : Wld) (c : Chunk) (hx : 0 ≤ c.x) (hx2 : c.x ≤ 15) (hy : 0 ≤ c.y) (hy2 : c.y ≤ 15) (hl : c.cells.length ≤ 4000000000000000000) : Api Tryz.prog 257 [az w,bq c] (bol (dy w.seed c)):=by
 refine aF Tryz.func257 20 ?_
 conv=>whnf
 repeat' (first|exact trivial|((first|refine kL ?_|(refine ⟨fun hb=>?_,fun hb=>?_⟩<;>(try simp only [nrm] at hb)<;>try exact kZ hb)|(refine isE 75 ?_;refine kA (ju w.seed c.x c.y hx hx2 hy hy2) ?_)|(refine isD 75 ?_;refine kD (ju w.seed c.x c.y hx hx2 hy hy2) ?_)|(refine isE 277 ?_;refine kA (sc c.cells (gl w.seed c.x c.y 64) hl) ?_)|(refine isD 277 ?_;refine kD (sc c.cells (gl w.seed c.x c.y 64) hl) ?_)|refine kV ?_)<;>(conv=>whnf))|refine kY ?_ ?_)
 all_goals first
  | omega
  | (refine congrArg Value.bool ?_;unfold dy;rw [decide_eq_true hb,Bool.true_and])
  | (refine congrArg Value.bool ?_;unfold dy;rw [decide_eq_false hb,Bool.false_and])
  | trace_state
open Go Go.RowKit Eng
theorem FX (w : Wld) (x y : Int) (hl : w.chunks.length ≤ 4000000000000000000) : Ev1 Tryz.prog 73 [.agg (ve w 1 3),i64 x,i64 y] (mj w 1 3) (.tup [i64 (bsC w.chunks x y),bol (fdC w.chunks x y)]) (mj w 1 3):=by
 refine Api.lend (wB w x y hl) ?_ rfl
 conv=>whnf
 refine ⟨by omega,?_⟩
 conv=>whnf
 refine ⟨by omega,?_⟩
 conv=>whnf
 simp only [List.drop_zero,List.take_length]
def c_ (w : Wld) (l : List Chunk) : Wld:={ w with chunks:=l }
theorem wC (w : Wld) (c : Chunk) (n : Nat) (hn : n = w.chunks.length) (hx : 0 ≤ c.x) (hx2 : c.x ≤ 15) (hy : 0 ≤ c.y) (hy2 : c.y ≤ 15) (hl : c.cells.length ≤ 4000000000000000000) : Ev1 Tryz.prog 257 [.agg [i64 w.size,.lit (.int .u64 w.seed),i64 w.tick,.own .chunk 1 0 n none,.own .player 3 0 w.players.length none],bq c] (mj w 1 3) (bol (dy w.seed c)) (mj w 1 3):=by
 subst hn
 refine Api.lend (FW w c hx hx2 hy hy2 hl) ?_ rfl
 conv=>whnf
 refine ⟨by omega,?_⟩
 conv=>whnf
 refine ⟨by omega,?_⟩
 conv=>whnf
 simp only [List.drop_zero,List.take_length]
def gv (l : List Chunk) (x y : Int) : List Chunk:=if fdC l x y = true then l.take (bsC l x y) ++ l.drop (bsC l x y + 1) else l
def br (w : Wld) (c : Chunk) : Wld × Int:=
 if aO w = false then (w,113) else if w.size ≤ max c.x c.y ∨ ai c = false then (w,101)
 else if dy w.seed c = true then (c_ w (gv w.chunks c.x c.y),0)
 else (c_ w ((gv w.chunks c.x c.y).take (bsC w.chunks c.x c.y) ++ c :: (gv w.chunks c.x c.y).drop (bsC w.chunks c.x c.y)),0)
theorem zJ (w : Wld) (c : Chunk) (hw : OkW w) (hc : OkC c) (hf : fH c) : Api Tryz.prog 201 [az w,bq c] (.tup [az (br w c).1,i64 (br w c).2]):=by
 have hnc:=hw.nc
 have hnp:=hw.np
 have hrt:=dA w hw
 have hcr:=gp c hc
 have hwc:=tQ w hw
 have hfo:=FX w c.x c.y (by omega)
 cases hR : aO w with
 | false =>
  rw [hR] at hrt
  have hs : br w c = (w,113):=by unfold br;rw [if_pos hR]
  rw [hs]
  refine aF Tryz.func201 60 ?_
  conv=>whnf
  repeat' (first|exact trivial|((first|refine kL ?_|(refine ⟨fun hb=>?_,fun hb=>?_⟩<;>(try simp only [nrm] at hb)<;>try exact kZ hb)|refine kE hwc [(390001,150001),(390003,150003)] rfl ?_|refine kF hwc [(390001,150001),(390003,150003)] rfl ?_|refine kV ?_)<;>(conv=>whnf))|refine kY ?_ ?_)
  all_goals first|(simp;done)|(rw [List.drop_zero];refine aC ?_;simp;done)
 | true =>
  rw [hR] at hrt
  cases hB : ai c with
  | false =>
   rw [hB] at hcr
   have hs : br w c = (w,101):=by unfold br;rw [if_neg (by rw [hR];simp),if_pos (.inr hB)]
   rw [hs]
   refine aF Tryz.func201 60 ?_
   conv=>whnf
   repeat' (first|exact trivial|((first|refine kL ?_|(refine ⟨fun hb=>?_,fun hb=>?_⟩<;>(try simp only [nrm] at hb)<;>try exact kZ hb)|refine kE hwc [(390001,150001),(390003,150003)] rfl ?_|refine kF hwc [(390001,150001),(390003,150003)] rfl ?_|refine kV ?_)<;>(conv=>whnf))|refine kY ?_ ?_)
   all_goals first|(simp;done)|(rw [List.drop_zero];refine aC ?_;simp;done)
  | true =>
   rw [hB] at hcr
   by_cases hM : w.size ≤ max c.x c.y
   ·have hs : br w c = (w,101):=by unfold br;rw [if_neg (by rw [hR];simp),if_pos (.inl hM)]
    rw [hs]
    refine aF Tryz.func201 60 ?_
    conv=>whnf
    repeat' (first|exact trivial|((first|refine kL ?_|(refine ⟨fun hb=>?_,fun hb=>?_⟩<;>(try simp only [nrm] at hb)<;>try exact kZ hb)|refine kE hwc [(390001,150001),(390003,150003)] rfl ?_|refine kF hwc [(390001,150001),(390003,150003)] rfl ?_|refine kV ?_)<;>(conv=>whnf))|refine kY ?_ ?_)
    all_goals first|omega|(simp;done)|(rw [List.drop_zero];refine aC ?_;simp;done)
   ·have hM2 : max c.x c.y < w.size:=by omega
    obtain ⟨_,_,hs1,hs2⟩:=ii hR
    have hx : 0 ≤ c.x ∧ 0 ≤ c.y:=by
     have h:=hB
     simp only [ai,dP,Bool.and_eq_true,decide_eq_true_eq] at h
     omega
    have hlen:=Is hB
    have hown:=ou c hf
    have hble:=KJ w.chunks c.x c.y
    cases hF : fdC w.chunks c.x c.y with
    | true =>
     rw [hF] at hfo
     have hlt : bsC w.chunks c.x c.y < w.chunks.length:=by
      unfold fdC at hF
      simp only [Bool.and_eq_true,decide_eq_true_eq] at hF
      exact hF.1
     have hcut : gv w.chunks c.x c.y = w.chunks.take (bsC w.chunks c.x c.y) ++ w.chunks.drop (bsC w.chunks c.x c.y + 1):=by unfold gv;rw [if_pos hF]
     have hcl : (gv w.chunks c.x c.y).length = bsC w.chunks c.x c.y + (w.chunks.length - (bsC w.chunks c.x c.y + 1)):=by rw [hcut];simp;omega
     have hdl:=AB w.chunks w.chunks.length (bsC w.chunks c.x c.y) (bsC w.chunks c.x c.y + 1) rfl (by omega) (by omega) (by omega)
     rw [← hcut] at hdl
     have hpl:=wC (c_ w (gv w.chunks c.x c.y)) c _ hcl.symm (by omega) (by omega) (by omega) (by omega) (by omega)
     have hins:=rM (gv w.chunks c.x c.y) _ (bsC w.chunks c.x c.y) c hcl.symm (by omega) (by omega)
     cases hP : dy w.seed c with
     | true =>
      have hP2 : dy (c_ w (gv w.chunks c.x c.y)).seed c = true:=hP
      rw [hP2] at hpl
      have hs : br w c = (c_ w (gv w.chunks c.x c.y),0):=by unfold br;rw [if_neg (by rw [hR];simp),if_neg (by rw [hB];simp;omega),if_pos hP]
      rw [hs]
      generalize gv w.chunks c.x c.y = L at *
      generalize bsC w.chunks c.x c.y = at_ at *
      refine aF Tryz.func201 60 ?_
      conv=>whnf
      repeat' (first|exact trivial|((first|refine kL ?_|(refine ⟨fun hb=>?_,fun hb=>?_⟩<;>(try simp only [nrm] at hb)<;>try exact kZ hb)|refine kE hwc [(390001,150001),(390003,150003)] rfl ?_|refine kF hwc [(390001,150001),(390003,150003)] rfl ?_|refine kE hfo [(1,150001),(3,150003)] rfl ?_|refine kF hfo [(1,150001),(3,150003)] rfl ?_|refine kE hdl [(1,150001)] rfl ?_|refine kF hdl [(1,150001)] rfl ?_|refine kE hpl [(1,150001),(3,150003)] rfl ?_|refine kF hpl [(1,150001),(3,150003)] rfl ?_|refine kV ?_)<;>(conv=>whnf))|refine kY ?_ ?_)
      all_goals (try simp only [c_,List.drop_zero,Nat.zero_add])
      all_goals first|omega|exact List.take_of_length_le (by omega)|exact List.take_of_length_le (by simp;omega)|(simp;omega)|(simp;done)|trace_state
     | false =>
      have hP2 : dy (c_ w (gv w.chunks c.x c.y)).seed c = false:=hP
      rw [hP2] at hpl
      have hs : br w c = (c_ w ((gv w.chunks c.x c.y).take (bsC w.chunks c.x c.y) ++ c :: (gv w.chunks c.x c.y).drop (bsC w.chunks c.x c.y)),0):=by unfold br;rw [if_neg (by rw [hR];simp),if_neg (by rw [hB];simp;omega),if_neg (by rw [hP];simp)]
      rw [hs]
      generalize gv w.chunks c.x c.y = L at *
      generalize bsC w.chunks c.x c.y = at_ at *
      refine aF Tryz.func201 60 ?_
      conv=>whnf
      repeat' (first|exact trivial|((first|refine kL ?_|(refine ⟨fun hb=>?_,fun hb=>?_⟩<;>(try simp only [nrm] at hb)<;>try exact kZ hb)|refine kE hwc [(390001,150001),(390003,150003)] rfl ?_|refine kF hwc [(390001,150001),(390003,150003)] rfl ?_|refine kE hfo [(1,150001),(3,150003)] rfl ?_|refine kF hfo [(1,150001),(3,150003)] rfl ?_|refine kE hdl [(1,150001)] rfl ?_|refine kF hdl [(1,150001)] rfl ?_|refine kE hpl [(1,150001),(3,150003)] rfl ?_|refine kF hpl [(1,150001),(3,150003)] rfl ?_|refine kE hins [(1,150001),(3,117),(390001,150007)] rfl ?_|refine kF hins [(1,150001),(3,117),(390001,150007)] rfl ?_|refine kV ?_)<;>(conv=>whnf))|refine kY ?_ ?_)
      all_goals (try simp only [c_,List.drop_zero,Nat.zero_add])
      all_goals first|omega|exact List.take_of_length_le (by omega)|exact List.take_of_length_le (by simp;omega)|(simp;omega)|(simp;done)|trace_state
    | false =>
     rw [hF] at hfo
     have hcut : gv w.chunks c.x c.y = w.chunks:=by unfold gv;rw [if_neg (by rw [hF];simp)]
     have hpl:=wC w c _ rfl (by omega) (by omega) (by omega) (by omega) (by omega)
     have hins:=rM w.chunks _ (bsC w.chunks c.x c.y) c rfl (by omega) (by omega)
     cases hP : dy w.seed c with
     | true =>
      rw [hP] at hpl
      have hs : br w c = (w,0):=by unfold br;rw [if_neg (by rw [hR];simp),if_neg (by rw [hB];simp;omega),if_pos hP,hcut];rfl
      rw [hs]
      generalize bsC w.chunks c.x c.y = at_ at *
      refine aF Tryz.func201 60 ?_
      conv=>whnf
      repeat' (first|exact trivial|((first|refine kL ?_|(refine ⟨fun hb=>?_,fun hb=>?_⟩<;>(try simp only [nrm] at hb)<;>try exact kZ hb)|refine kE hwc [(390001,150001),(390003,150003)] rfl ?_|refine kF hwc [(390001,150001),(390003,150003)] rfl ?_|refine kE hfo [(1,150001),(3,150003)] rfl ?_|refine kF hfo [(1,150001),(3,150003)] rfl ?_|refine kE hpl [(1,150001),(3,150003)] rfl ?_|refine kF hpl [(1,150001),(3,150003)] rfl ?_|refine kV ?_)<;>(conv=>whnf))|refine kY ?_ ?_)
      all_goals (try simp only [c_,List.drop_zero,Nat.zero_add])
      all_goals first|omega|exact List.take_of_length_le (by omega)|exact List.take_of_length_le (by simp;omega)|(simp;omega)|(simp;done)|trace_state
     | false =>
      rw [hP] at hpl
      have hs : br w c = (c_ w (w.chunks.take (bsC w.chunks c.x c.y) ++ c :: w.chunks.drop (bsC w.chunks c.x c.y)),0):=by unfold br;rw [if_neg (by rw [hR];simp),if_neg (by rw [hB];simp;omega),if_neg (by rw [hP];simp),hcut]
      rw [hs]
      generalize bsC w.chunks c.x c.y = at_ at *
      refine aF Tryz.func201 60 ?_
      conv=>whnf
      repeat' (first|exact trivial|((first|refine kL ?_|(refine ⟨fun hb=>?_,fun hb=>?_⟩<;>(try simp only [nrm] at hb)<;>try exact kZ hb)|refine kE hwc [(390001,150001),(390003,150003)] rfl ?_|refine kF hwc [(390001,150001),(390003,150003)] rfl ?_|refine kE hfo [(1,150001),(3,150003)] rfl ?_|refine kF hfo [(1,150001),(3,150003)] rfl ?_|refine kE hpl [(1,150001),(3,150003)] rfl ?_|refine kF hpl [(1,150001),(3,150003)] rfl ?_|refine kE hins [(1,150001),(3,117),(390001,150007)] rfl ?_|refine kF hins [(1,150001),(3,117),(390001,150007)] rfl ?_|refine kV ?_)<;>(conv=>whnf))|refine kY ?_ ?_)
      all_goals (try simp only [c_,List.drop_zero,Nat.zero_add])
      all_goals first|omega|exact List.take_of_length_le (by omega)|exact List.take_of_length_le (by simp;omega)|(simp;omega)|(simp;done)|trace_state
open Go Go.RowKit Eng
theorem p_ {a b : Chunk} (ha : 0 ≤ a.x ∧ a.x < 16) (hb : 0 ≤ b.x ∧ b.x < 16) : (dQ a b < 0 ↔ aI a < aI b) ∧ (dQ a b = 0 ↔ aI a = aI b):=by
 unfold dQ ot bX aI
 constructor<;>(repeat' split)<;>omega
theorem KK {α : Type} {key : α → Int} {t : Int} : ∀ {l : List α} {k : Nat} {a : α},l[k]? = some a → k < lbK key t l → key a < t:=by
 intro l
 induction l with
 | nil=>intro k a ha;simp at ha
 | cons b r ih =>
  intro k a ha hk
  simp only [lbK] at hk
  split at hk
  ·cases k with
   | zero=>simp at ha;subst ha;assumption
   | succ k=>simp at ha;exact ih ha (by omega)
  ·omega
theorem KL {α : Type} {key : α → Int} {t : Int} : ∀ {l : List α} {b : α},l[lbK key t l]? = some b → t ≤ key b:=by
 intro l
 induction l with
 | nil=>intro b hb;simp at hb
 | cons c r ih =>
  intro b hb
  simp only [lbK] at hb
  split at hb
  ·simp at hb;exact ih hb
  ·rename_i hc;simp at hb;subst hb;omega
theorem qa {l : List Chunk} (h : bi aI l) (hx : ∀ c ∈ l,0 ≤ c.x ∧ c.x < 16) {x y : Int} (h0 : 0 ≤ x) (h1 : x < 16) :
  bsC l x y = lbK aI (aI (atC x y)) l ∧ fdC l x y = (aH aI l (aI (atC x y))).isSome:=by
 have hat:=tP (aI (atC x y)) h
 have hle:=yL aI (aI (atC x y)) l
 have hlt_iff : ∀ k < l.length,(dQ (elt .chunk l k) (atC x y) < 0 ↔ k < lbK aI (aI (atC x y)) l):=by
  intro k hk
  have hke:=ar .chunk l k hk
  have hm:=hx _ (List.mem_of_getElem? hke)
  rw [(p_ hm ⟨h0,h1⟩).1]
  constructor
  ·intro hlt
   by_cases hkb : k < lbK aI (aI (atC x y)) l
   ·exact hkb
   ·exfalso
    have hlt' : lbK aI (aI (atC x y)) l < l.length:=by omega
    have hbe:=ar .chunk l _ hlt'
    have hge:=KL hbe
    rcases Nat.eq_or_lt_of_le (Nat.le_of_not_lt hkb) with he|hl
    ·rw [← he] at hlt;omega
    ·have h3:=kp h hl hbe hke
     omega
  ·exact fun hkb=>KK hke hkb
 have e1 : bsC l x y = lbK aI (aI (atC x y)) l:=by
  refine qY (m:=l.length) (fun k hk=>?_) _ 0 l.length (Nat.le_refl _) (by omega) hle (Nat.le_refl _)
  rw [decide_eq_decide];exact hlt_iff k hk
 refine ⟨e1,?_⟩
 unfold fdC
 rw [e1]
 by_cases hlt : lbK aI (aI (atC x y)) l < l.length
 ·have hbe:=ar .chunk l _ hlt
  have hm:=hx _ (List.mem_of_getElem? hbe)
  rw [hbe] at hat
  simp only at hat
  rw [decide_eq_true hlt,Bool.true_and,← hat]
  by_cases he : aI (elt .chunk l (lbK aI (aI (atC x y)) l)) = aI (atC x y)
  ·rw [if_pos he];simpa using (p_ hm ⟨h0,h1⟩).2.2 he
  ·rw [if_neg he];simpa using fun hh=>he ((p_ hm ⟨h0,h1⟩).2.1 hh)
 ·rw [List.getElem?_eq_none (by omega)] at hat
  rw [decide_eq_false hlt,← hat];rfl
open Go Go.RowKit Eng
def wr (z : Int) : Int:=IntKind.i64.wrap z
def qb (c : Chunk) (k : Nat) : Int:=(c.boxes.take k).foldl (fun n b=>wr (n + b.bag.length)) (wr (wr ((c.cells.length : Int) + c.heaps.length) + c.boxes.length))
def nJ (c : Chunk) : Bool:=decide (3000 < qb c c.boxes.length)
theorem AW {c : Chunk} {k : Nat} (h : k < c.boxes.length) : qb c (k + 1) = wr (qb c k + (elt .box c.boxes k).bag.length):=by
 have:=ar .box c.boxes k h
 unfold qb
 rw [List.take_add_one,this]
 simp
theorem FY (c : Chunk) (hc : OkC c) : Api Tryz.prog 57 [bq c] (bol (nJ c)):=by
 have hnb : c.boxes.length ≤ 9000000000000000000:=hc.nb
 refine aF Tryz.func57 33 ?_
 conv=>whnf
 repeat' (first|exact trivial|((first|refine kL ?_|(refine ⟨fun hb=>?_,fun hb=>?_⟩<;>(try simp only [nrm] at hb)<;>try exact kZ hb)|(refine .inr ?_)|refine kV ?_)<;>(conv=>whnf))|refine kY ?_ ?_)
 refine ap.loopS ah (σ:=Nat) [1,3,18,19] (fun k=>[.ptr 2 0,i64 (qb c k),i64 c.boxes.length,i64 k]) (fun k=>[(2,.box (bB c))])
  (fun k=>k ≤ c.boxes.length) (fun k=>c.boxes.length - k) 0 (by omega) ?_ ?_
 ·exact fD0
 ·intro k hk
  by_cases hlt : k < c.boxes.length
  ·conv=>whnf
   repeat' (first|exact trivial|((first|refine kL ?_|(refine ⟨fun hb=>?_,fun hb=>?_⟩<;>(try simp only [nrm] at hb)<;>try exact kZ hb)|(refine .inr ?_)|refine kV ?_)<;>(conv=>whnf))|refine kY ?_ ?_)
   refine .to (k + 1) hlt (by omega) ?_
   conv=>whnf
   repeat' (first|exact trivial|((first|(refine ⟨fun hb=>?_,fun hb=>?_⟩<;>(try simp only [nrm] at hb)<;>try exact kZ hb)|refine kV ?_)<;>(conv=>whnf))|refine kY ?_ ?_)
   rw [AW hlt];rfl
  ·obtain rfl : k = c.boxes.length:=by omega
   exact fD0
open Go Go.RowKit Eng
def lz (p : Player) : Bool:=decide (300 < (p.bag.length : Int)) || decide (300 < (p.offer.length : Int))
def mu (w : Wld) : Bool:=(decide (20 < (w.chunks.length : Int)) || decide (40 < (w.players.length : Int))) || (w.chunks.any nJ || w.players.any lz)
theorem zK {tt : Ty} {f : El tt → Bool} {l : List (El tt)} {k : Nat} (h : k < l.length) : (l.drop k).any f = (f (elt tt l k) || (l.drop (k + 1)).any f):=by
 rw [aY (t:=tt) h,List.any_cons]
theorem DI (w : Wld) (hw : OkW w) : Api Tryz.prog 20 [az w] (bol (mu w)):=by
 have hnc:=hw.nc
 have hnp:=hw.np
 by_cases hbig : 20 < (w.chunks.length : Int) ∨ 40 < (w.players.length : Int)
 ·have hs : mu w = true:=by
   unfold mu
   rcases hbig with h|h
   ·rw [decide_eq_true h];rfl
   ·rw [decide_eq_true h,Bool.or_true];rfl
  rw [hs]
  refine aF Tryz.func20 52 ?_
  exact fD0
 ·have hs : mu w = (w.chunks.any nJ || w.players.any lz):=by
   unfold mu
   rw [decide_eq_false (by omega),decide_eq_false (by omega)];rfl
  refine aF Tryz.func20 52 ?_
  conv=>whnf
  repeat' (first|exact trivial|((first|(refine ⟨fun hb=>?_,fun hb=>?_⟩<;>(try simp only [nrm] at hb)<;>try exact kZ hb)|refine kV ?_)<;>(conv=>whnf))|refine kY ?_ ?_)
  all_goals try omega
  refine ap.loopS ah (σ:=Nat) [1,17,18] (fun k=>[.ptr 2 0,i64 w.chunks.length,i64 k]) (fun _=>[(2,.box (bA w))]) (fun k=>k ≤ w.chunks.length ∧ (w.chunks.drop k).any nJ = w.chunks.any nJ) (fun k=>w.chunks.length - k) 0 ⟨by omega,rfl⟩ ?_ ?_
  ·exact fD0
  ·rintro k ⟨hk,hg⟩
   by_cases hlt : k < w.chunks.length
   ·rw [zK (tt:=.chunk) hlt] at hg
    have hgr:=FY (elt .chunk w.chunks k) (hw.chunks _ (List.mem_of_getElem? (ar .chunk w.chunks k hlt)))
    cases hG : nJ (elt .chunk w.chunks k) with
    | true =>
     rw [hG] at hgr hg
     conv=>whnf
     repeat' (first|exact trivial|((first|(refine ⟨fun hb=>?_,fun hb=>?_⟩<;>(try simp only [nrm] at hb)<;>try exact kZ hb)|refine kV ?_)<;>(conv=>whnf))|refine kY ?_ ?_)
     all_goals (refine congrArg Value.bool ?_;rw [hs,← hg];rfl)
    | false =>
     rw [hG] at hgr hg
     conv=>whnf
     repeat' (first|exact trivial|((first|(refine ⟨fun hb=>?_,fun hb=>?_⟩<;>(try simp only [nrm] at hb)<;>try exact kZ hb)|refine kV ?_)<;>(conv=>whnf))|refine kY ?_ ?_)
     refine .to (k + 1) ⟨by omega,hg⟩ (by omega) ?_
     exact fD0
   ·obtain rfl : k = w.chunks.length:=by omega
    rw [List.drop_length] at hg
    have hs2 : mu w = w.players.any lz:=by rw [hs,← hg];rfl
    conv=>whnf
    repeat' (first|exact trivial|((first|(refine ⟨fun hb=>?_,fun hb=>?_⟩<;>(try simp only [nrm] at hb)<;>try exact kZ hb)|refine kV ?_)<;>(conv=>whnf))|refine kY ?_ ?_)
    refine ap.loopS ah (σ:=Nat) [1,30,31] (fun k=>[.ptr 2 0,i64 w.players.length,i64 k]) (fun _=>[(2,.box (bA w))]) (fun k=>k ≤ w.players.length ∧ (w.players.drop k).any lz = w.players.any lz) (fun k=>w.players.length - k) 0 ⟨by omega,rfl⟩ ?_ ?_
    ·exact fD0
    ·rintro k ⟨hk,hg⟩
     by_cases hlt : k < w.players.length
     ·rw [zK (tt:=.player) hlt] at hg
      by_cases hL : 300 < ((elt .player w.players k).bag.length : Int) ∨ 300 < ((elt .player w.players k).offer.length : Int)
      ·have hl : lz (elt .player w.players k) = true:=by
        unfold lz
        rcases hL with h|h
        ·rw [decide_eq_true h];rfl
        ·rw [decide_eq_true h,Bool.or_true]
       rw [hl] at hg
       conv=>whnf
       repeat' (first|exact trivial|((first|(refine ⟨fun hb=>?_,fun hb=>?_⟩<;>(try simp only [nrm] at hb)<;>try exact kZ hb)|refine kV ?_)<;>(conv=>whnf))|refine kY ?_ ?_)
       all_goals first|omega|(refine congrArg Value.bool ?_;rw [hs2,← hg];rfl)
      ·have hl : lz (elt .player w.players k) = false:=by
        unfold lz
        rw [decide_eq_false (by omega),decide_eq_false (by omega)];rfl
       rw [hl] at hg
       conv=>whnf
       repeat' (first|exact trivial|((first|(refine ⟨fun hb=>?_,fun hb=>?_⟩<;>(try simp only [nrm] at hb)<;>try exact kZ hb)|refine kV ?_)<;>(conv=>whnf))|refine kY ?_ ?_)
       all_goals try omega
       refine .to (k + 1) ⟨by omega,hg⟩ (by omega) ?_
       exact fD0
     ·obtain rfl : k = w.players.length:=by omega
      rw [List.drop_length] at hg
      conv=>whnf
      repeat' (first|exact trivial|((first|(refine ⟨fun hb=>?_,fun hb=>?_⟩<;>(try simp only [nrm] at hb)<;>try exact kZ hb)|refine kV ?_)<;>(conv=>whnf))|refine kY ?_ ?_)
      all_goals (refine congrArg Value.bool ?_;rw [hs2,← hg];rfl)
open Go Go.RowKit Eng
theorem cT {c : Chunk} (h : ai c = true) : 0 ≤ c.x ∧ 0 ≤ c.y ∧ c.x < 16 ∧ c.y < 16:=by
 simp only [ai,dP,Bool.and_eq_true,decide_eq_true_eq] at h
 omega
theorem qc {s : Int} {c : Chunk} : gA s c = false ↔ ai c = true ∧ max c.x c.y < s:=by
 simp only [gA,Bool.or_eq_false_iff,decide_eq_false_iff_not,Bool.not_eq_false']
 constructor
 ·rintro ⟨h1,h2⟩;exact ⟨h2,by omega⟩
 ·rintro ⟨h1,h2⟩;exact ⟨by omega,h1⟩
theorem uj {s : Int} {p : Player} : mi s p = false ↔ a7 p = true ∧ av s p.x p.y = true:=by
 simp only [mi,Bool.or_eq_false_iff,Bool.not_eq_false']
theorem Ce {α : Type} {f : α → Bool} {l : List α} : (!(l.any f)) = true ↔ ∀ a ∈ l,f a = false:=by
 rw [Bool.not_eq_true',List.any_eq_false]
 exact ⟨fun h a ha=>by simpa using h a ha,fun h a ha=>by simp [h a ha]⟩
structure RW (w : Wld) : Prop where
 head : iy w = true
 chunks : ∀ c ∈ w.chunks,ai c = true ∧ max c.x c.y < w.size
 rc : bi aI w.chunks
 rp : bi pid w.players
 players : ∀ p ∈ w.players,a7 p = true ∧ av w.size p.x p.y = true
theorem aK {w : Wld} : aO w = true ↔ RW w:=by
 unfold aO
 rw [Bool.and_eq_true,Bool.and_eq_true,Bool.and_eq_true,Bool.and_eq_true,Ce,Ce]
 constructor
 ·rintro ⟨h1,h2,h3,h4,h5⟩
  have hc : ∀ c ∈ w.chunks,ai c = true ∧ max c.x c.y < w.size:=fun c hc=>qc.1 (h2 c hc)
  exact ⟨h1,hc,(vR fun c hm=>by have:=cT (hc c hm).1;omega).1 h3,sK.1 h4,fun p hp=>uj.1 (h5 p hp)⟩
 ·rintro ⟨h1,hc,h3,h4,h5⟩
  exact ⟨h1,fun c hm=>qc.2 (hc c hm),(vR fun c hm=>by have:=cT (hc c hm).1;omega).2 h3,sK.2 h4,fun p hp=>uj.2 (h5 p hp)⟩
theorem RW.size {w : Wld} (h : RW w) : 1 ≤ w.size ∧ w.size ≤ 16 ∧ 0 ≤ w.tick ∧ w.tick ≤ 1099511627776 ∧ w.players.length ≤ 32:=by
 have:=h.head
 simp only [iy,Bool.and_eq_true,decide_eq_true_eq] at this
 omega
theorem RW.xy {w : Wld} (h : RW w) : ∀ c ∈ w.chunks,0 ≤ c.x ∧ c.x < 16:=fun c hc=>by
 have:=cT (h.chunks c hc).1
 omega
theorem Jy {c : Chunk} (h : ai c = true) : 0 ≤ aI c ∧ aI c < 256:=by
 have:=cT h
 unfold aI;omega
theorem zL {α : Type} {key : α → Int} {n : Nat} : ∀ {l : List α} {b : Int},bi key l → (∀ a ∈ l,b ≤ key a ∧ key a < b + n) → l.length ≤ n:=by
 induction n with
 | zero =>
  intro l b h hb
  match l with
  | []=>simp
  | a :: r=>have:=hb a (by simp);omega
 | succ n ih =>
  intro l b h hb
  match l,h with
  | [],_=>simp
  | a :: r,h =>
   have h2:=ih (l:=r) (b:=b + 1) h.2 fun x hx=>by
    have h3:=h.1 x hx
    have h4:=hb a (by simp)
    have h5:=hb x (by simp [hx])
    omega
   simp only [List.length_cons];omega
theorem RW.few {w : Wld} (h : RW w) : w.chunks.length ≤ 256:=
 zL (key:=aI) (b:=0) h.rc fun c hc=>by
  have:=Jy (h.chunks c hc).1
  omega
def d5 (seed : Int) (l : List Chunk) (c : Chunk) : List Chunk:=if dy seed c = true then dZ aI (aI c) l else eN aI c (dZ aI (aI c) l)
theorem iA {α : Type} {key : α → Int} {l : List α} {t : Int} (h : bi key l) : aH key (dZ key t l) t = none:=by
 rw [mh h,if_pos rfl]
theorem wD {seed : Int} {l : List Chunk} {c : Chunk} (h : bi aI l) (t : Int) : aH aI (d5 seed l c) t = if t = aI c then (if dy seed c = true then none else some c) else aH aI l t:=by
 unfold d5
 split
 ·rw [mh h]
 ·rw [sI (iA h),mh h];split<;>rfl
theorem nw {seed : Int} {l : List Chunk} {c : Chunk} (h : bi aI l) : bi aI (d5 seed l c):=by
 unfold d5
 split
 ·exact k_ h
 ·exact oq (k_ h) (iA h)
theorem jT {seed : Int} {l : List Chunk} {c b : Chunk} (h : b ∈ d5 seed l c) : b = c ∨ b ∈ l:=by
 unfold d5 at h
 split at h
 ·exact .inr (mg h)
 ·rcases oo h with h|h
  ·exact .inl h
  ·exact .inr (mg h)
theorem sd {seed : Int} {l : List Chunk} {c : Chunk} : (d5 seed l c).length ≤ l.length + 1:=by
 unfold d5
 have:=Av aI (aI c) l
 split
 ·omega
 ·rw [rJ];omega
theorem nK {w : Wld} {c : Chunk} (hR : RW w) (hB : ai c = true) (hM : max c.x c.y < w.size) : br w c = (c_ w (d5 w.seed w.chunks c),0):=by
 have hp:=cT hB
 obtain ⟨e1,e2⟩:=qa hR.rc hR.xy (x:=c.x) (y:=c.y) hp.1 (by omega)
 have hk : aI (atC c.x c.y) = aI c:=rfl
 rw [hk] at e1 e2
 have hcut : gv w.chunks c.x c.y = dZ aI (aI c) w.chunks:=by
  unfold gv
  rw [e2,e1,qV hR.rc]
 have hRr:=aK.2 hR
 unfold br
 rw [if_neg (by rw [hRr];simp),if_neg (by rw [hB];simp;omega),hcut,e1]
 unfold d5
 split
 ·rfl
 ·rw [← BX (aI c) w.chunks hR.rc,u9 aI c]
theorem vl (w : Wld) (c : Chunk) : (RW w ∧ ai c = true ∧ max c.x c.y < w.size ∧ (br w c).2 = 0) ∨ ((br w c).1 = w ∧ ((br w c).2 = 113 ∧ aO w = false ∨ (br w c).2 = 101 ∧ RW w ∧ (ai c = false ∨ w.size ≤ max c.x c.y))):=by
 cases hR : aO w with
 | false=>exact .inr (by unfold br;rw [if_pos hR];exact ⟨rfl,.inl ⟨rfl,rfl⟩⟩)
 | true =>
  have hR':=aK.1 hR
  by_cases h : w.size ≤ max c.x c.y ∨ ai c = false
  ·refine .inr ?_
   unfold br
   rw [if_neg (by rw [hR];simp),if_pos h]
   exact ⟨rfl,.inr ⟨rfl,hR',h.symm⟩⟩
  ·have hB : ai c = true:=by
    cases hB : ai c with
    | true=>rfl
    | false=>exact absurd (.inr hB) h
   have hM : max c.x c.y < w.size:=by
    have : ¬ w.size ≤ max c.x c.y:=fun e=>h (.inl e)
    omega
   exact .inl ⟨hR',hB,hM,by rw [nK hR' hB hM]⟩
theorem FZ {w : Wld} {c : Chunk} (hR : RW w) (hB : ai c = true) (hM : max c.x c.y < w.size) : RW (c_ w (d5 w.seed w.chunks c)):=
 ⟨hR.head,fun b hb=>by rcases jT hb with rfl|hb;exact ⟨hB,hM⟩;exact hR.chunks b hb,nw hR.rc,hR.rp,hR.players⟩
theorem Cf {w : Wld} {c : Chunk} (hw : OkW w) (hc : OkC c) (hf : fH c) : OkW (br w c).1:=by
 rcases vl w c with ⟨hR,hB,hM,_⟩|⟨h,_⟩
 ·rw [nK hR hB hM]
  refine ⟨fun b hb=>?_,fun b hb=>?_,hw.players,?_,hw.np⟩
  ·rcases jT hb with rfl|hb
   ·exact hc
   ·exact hw.chunks b hb
  ·rcases jT hb with rfl|hb
   ·exact hf
   ·exact hw.fit b hb
  ·have h1:=hR.few
   have h2:=@sd w.seed w.chunks c
   change (d5 w.seed w.chunks c).length * 88 ≤ _
   omega
 ·rw [h];exact hw
def ck (l : List Player) (p : Player) : List Player:=eN pid p (dZ pid p.id l)
theorem eU {l : List Player} {p : Player} (h : bi pid l) (t : Int) : aH pid (ck l p) t = if t = p.id then some p else aH pid l t:=by
 unfold ck
 rw [sI (iA h),mh h]
 change (if t = p.id then _ else _) = _
 split<;>rfl
theorem eV {l : List Player} {p : Player} (h : bi pid l) : bi pid (ck l p):=oq (k_ h) (iA h)
theorem zM {l : List Player} {p b : Player} (h : b ∈ ck l p) : b = p ∨ b ∈ l:=by
 rcases oo h with h|h
 ·exact .inl h
 ·exact .inr (mg h)
theorem AX {l : List Player} {p : Player} (h : bi pid l) : (ck l p).length = if (aH pid l p.id).isSome = true then l.length else l.length + 1:=by
 unfold ck
 rw [rJ,qV h]
 split
 ·rename_i hs
  obtain ⟨b,hb⟩:=Option.isSome_iff_exists.1 hs
  have:=(pH h hb).1
  simp only [List.length_append,List.length_take,List.length_drop]
  omega
 ·rfl
def fD (w : Wld) (p : Player) : Prop:=RW w ∧ a7 p = true ∧ av w.size p.x p.y = true ∧ ((aH pid w.players p.id).isSome = true ∨ w.players.length < 32)
theorem iv {w : Wld} {p : Player} (h : fD w p) : am w p = (cR w (ck w.players p),0):=by
 obtain ⟨hR,hS,hI,hl⟩:=h
 have hRr:=aK.2 hR
 unfold am
 rw [if_neg (by rw [hRr];simp),if_neg (by rw [hS,hI];simp)]
 by_cases hs : (aH pid w.players p.id).isSome = true
 ·rw [if_pos hs]
  have:=BZ (key:=pid) p w.players hR.rp hs
  change w.players.set (lbK pid p.id w.players) p = ck w.players p at this
  rw [this]
 ·rw [if_neg hs,if_neg (by rcases hl with h|h;exact absurd h hs;omega)]
  have h1:=u9 pid p w.players
  change w.players.take (lbK pid p.id w.players) ++ p :: w.players.drop (lbK pid p.id w.players) = eN pid p w.players at h1
  unfold ck
  rw [h1,qV hR.rp,if_neg hs]
theorem nL (w : Wld) (p : Player) : (fD w p ∧ (am w p).2 = 0) ∨ ((am w p).1 = w ∧ ((am w p).2 = 113 ∧ aO w = false ∨ (am w p).2 = 110 ∧ RW w ∧ (a7 p = false ∨ av w.size p.x p.y = false) ∨ (am w p).2 = 3 ∧ RW w ∧ (a7 p = true ∧ av w.size p.x p.y = true ∧ aH pid w.players p.id = none ∧ 32 ≤ w.players.length))):=by
 cases hR : aO w with
 | false=>exact .inr (by unfold am;rw [if_pos hR];exact ⟨rfl,.inl ⟨rfl,rfl⟩⟩)
 | true =>
  have hR':=aK.1 hR
  by_cases h : a7 p = false ∨ av w.size p.x p.y = false
  ·refine .inr ?_
   unfold am
   rw [if_neg (by rw [hR];simp),if_pos h]
   exact ⟨rfl,.inr (.inl ⟨rfl,hR',h⟩)⟩
  ·have hS : a7 p = true:=by
    cases hB : a7 p with
    | true=>rfl
    | false=>exact absurd (.inl hB) h
   have hI : av w.size p.x p.y = true:=by
    cases hB : av w.size p.x p.y with
    | true=>rfl
    | false=>exact absurd (.inr hB) h
   by_cases hs : (aH pid w.players p.id).isSome = true
   ·have ho : fD w p:=⟨hR',hS,hI,.inl hs⟩
    exact .inl ⟨ho,by rw [iv ho]⟩
   ·by_cases hl : 32 ≤ w.players.length
    ·refine .inr ?_
     unfold am
     rw [if_neg (by rw [hR];simp),if_neg h,if_neg hs,if_pos hl]
     exact ⟨rfl,.inr (.inr ⟨rfl,hR',hS,hI,by simpa using hs,hl⟩)⟩
    ·have ho : fD w p:=⟨hR',hS,hI,.inr (by omega)⟩
     exact .inl ⟨ho,by rw [iv ho]⟩
theorem qd {w : Wld} {p : Player} (h : fD w p) : RW (cR w (ck w.players p)):=by
 obtain ⟨hR,hS,hI,hl⟩:=h
 refine ⟨?_,hR.chunks,hR.rc,eV hR.rp,fun b hb=>?_⟩
 ·have h1:=hR.size
  have h2:=AX (p:=p) hR.rp
  simp only [iy,Bool.and_eq_true,decide_eq_true_eq]
  refine ⟨h1.1,h1.2.1,h1.2.2.1,h1.2.2.2.1,?_⟩
  show ((ck w.players p).length : Int) ≤ 32
  rw [h2]
  split
  ·omega
  ·rcases hl with h|h
   ·contradiction
   ·omega
 ·rcases zM hb with rfl|hb
  ·exact ⟨hS,hI⟩
  ·exact hR.players b hb
theorem lR {w : Wld} {p : Player} (hw : OkW w) (hp : OkP p) : OkW (am w p).1:=by
 rcases nL w p with ⟨ho,_⟩|⟨h,_⟩
 ·rw [iv ho]
  refine ⟨hw.chunks,hw.fit,fun b hb=>?_,hw.nc,?_⟩
  ·rcases zM hb with rfl|hb
   ·exact hp
   ·exact hw.players b hb
  ·have h1:=(qd ho).size.2.2.2.2
   change (ck w.players p).length * 88 ≤ _
   change (ck w.players p).length ≤ 32 at h1
   omega
 ·rw [h];exact hw
theorem set_comm {w : Wld} {p q : Player} (hR : RW w) (hne : p.id ≠ q.id) : ck (ck w.players p) q = ck (ck w.players q) p:=by
 refine tO (eV (eV hR.rp)) (eV (eV hR.rp)) fun t=>?_
 rw [eU (eV hR.rp),eU hR.rp,eU (eV hR.rp),eU hR.rp]
 by_cases h1 : t = q.id
 ·have h2 : ¬ t = p.id:=fun h2=>hne (h2.symm.trans h1)
  simp only [if_pos h1,if_neg h2]
 ·simp only [if_neg h1]
end Go.Proofs.YtkojlembanldcaaGreat
