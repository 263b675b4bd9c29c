/- light: laying out, sources. -/
import Derived.Test.YtchdgiooggdfeaaGl
import Derived.Test.YtchdgiooggdfeaaGh
set_option linter.unusedSimpArgs false
set_option linter.unusedVariables false
set_option maxRecDepth 100000
set_option maxHeartbeats 16000000
namespace Go.Proofs.Ytchdgiooggdfeaa
open Go Go.RowKit Eng
abbrev fldC (m1 m2 : Nat) (fr to_ la : Int) : List AV:=[i64 fr,i64 to_,i64 la,.mp m1,.mp m2]
abbrev fldM (b0 m1 m2 : Nat) (fr to_ la : Int) (I F : PF) (nI nF : Nat) : Mem:=[(b0,.box (fldC m1 m2 fr to_ la)),(m1,.pm .u8 I nI),(m2,.pm .i64 F nF)]
def inFB (fr to_ la : Int) (c : Pos) : Bool:=decide (inF fr to_ la c)
theorem fwithin_ev (fr to_ la : Int) (I F : PF) (nI nF : Nat) (c : Pos) : Ev1 Try.prog 99 [.ptr 0 0,.agg [i64 c.x,i64 c.y]] (fldM 0 1 3 fr to_ la I F nI nF) (bol (inFB fr to_ la c)) (fldM 0 1 3 fr to_ la I F nI nF):=by
 by_cases h : inF fr to_ la c
 · have hB : inFB fr to_ la c = true:=decide_eq_true h
   rw [hB]
   unfold inF at h
   refine Ev1.of_fin cfg_ok Try.func99 rfl (nt:=33) rfl rfl rfl ?_
   conv=>whnf
   repeat' (first|exact trivial|((first|refine kL ?_|(refine ⟨fun hb=>?_,fun hb=>?_⟩<;>(try simp only [nrm] at hb)<;>(try (first|(exfalso;omega)|contradiction|exact kB hb)))|refine kW cfg_ok ?_|refine kC ?_|refine bdA ?_|refine bd2 ?_|refine bdR ?_|refine bdL ?_)<;>(conv=>whnf))|(refine And.intro ?_ ?_;rotate_left;(conv=>whnf);rotate_right))
   all_goals first|rfl|omega|(refine congrArg Value.bool ?_;exact (decide_eq_true (by omega)).symm)|(refine congrArg Value.bool ?_;exact decide_eq_true (by omega))|trace_state
 · have hB : inFB fr to_ la c = false:=decide_eq_false h
   rw [hB]
   unfold inF at h
   refine Ev1.of_fin cfg_ok Try.func99 rfl (nt:=33) rfl rfl rfl ?_
   conv=>whnf
   repeat' (first|exact trivial|((first|refine kL ?_|(refine ⟨fun hb=>?_,fun hb=>?_⟩<;>(try simp only [nrm] at hb)<;>(try (first|(exfalso;omega)|contradiction|exact kB hb)))|refine kW cfg_ok ?_|refine kC ?_|refine bdA ?_|refine bd2 ?_|refine bdR ?_|refine bdL ?_)<;>(conv=>whnf))|(refine And.intro ?_ ?_;rotate_left;(conv=>whnf);rotate_right))
   all_goals first|rfl|omega|(refine congrArg Value.bool ?_;exact (decide_eq_false (by omega)).symm)|(refine congrArg Value.bool ?_;exact decide_eq_false (by omega))|trace_state
def opFB (I : PF) (fr to_ la : Int) (c : Pos) : Bool:=decide (opF I fr to_ la c)
theorem fopen_ev (fr to_ la : Int) (I F : PF) (nI nF : Nat) (c : Pos) : Ev1 Try.prog 102 [.ptr 0 0,.agg [i64 c.x,i64 c.y]] (fldM 0 1 3 fr to_ la I F nI nF) (bol (opFB I fr to_ la c)) (fldM 0 1 3 fr to_ la I F nI nF):=by
 have hw:=fwithin_ev fr to_ la I F nI nF c
 by_cases h : inF fr to_ la c
 · rw [show inFB fr to_ la c = true from decide_eq_true h] at hw
   by_cases h2 : getZ (I c.x c.y) = 0 ∨ getZ (I c.x c.y) = 10
   · rw [show opFB I fr to_ la c = true from decide_eq_true ⟨h,h2⟩]
     clear h
     refine Ev1.of_fin cfg_ok Try.func102 rfl (nt:=21) rfl rfl rfl ?_
     conv=>whnf
     repeat' (first|exact trivial|((first|refine kL ?_|(refine ⟨fun hb=>?_,fun hb=>?_⟩<;>(try simp only [nrm] at hb)<;>(try (first|(exfalso;omega)|contradiction|exact kB hb)))|refine kE hw [(0,0),(1,1),(3,3)] rfl ?_|refine kF hw [(0,0),(1,1),(3,3)] rfl ?_|refine kW cfg_ok ?_|refine kC ?_|refine bdA ?_|refine bd2 ?_|refine bdR ?_|refine bdL ?_)<;>(conv=>whnf))|(refine And.intro ?_ ?_;rotate_left;(conv=>whnf);rotate_right))
     all_goals first|rfl|omega|(refine congrArg Value.bool ?_;exact beq_iff_eq.2 (by omega))|(refine congrArg Value.bool ?_;exact beq_eq_false_iff_ne.2 (by omega))|trace_state
   · rw [show opFB I fr to_ la c = false from decide_eq_false fun e=>h2 e.2]
     clear h
     refine Ev1.of_fin cfg_ok Try.func102 rfl (nt:=21) rfl rfl rfl ?_
     conv=>whnf
     repeat' (first|exact trivial|((first|refine kL ?_|(refine ⟨fun hb=>?_,fun hb=>?_⟩<;>(try simp only [nrm] at hb)<;>(try (first|(exfalso;omega)|contradiction|exact kB hb)))|refine kE hw [(0,0),(1,1),(3,3)] rfl ?_|refine kF hw [(0,0),(1,1),(3,3)] rfl ?_|refine kW cfg_ok ?_|refine kC ?_|refine bdA ?_|refine bd2 ?_|refine bdR ?_|refine bdL ?_)<;>(conv=>whnf))|(refine And.intro ?_ ?_;rotate_left;(conv=>whnf);rotate_right))
     all_goals first|rfl|omega|(refine congrArg Value.bool ?_;exact beq_iff_eq.2 (by omega))|(refine congrArg Value.bool ?_;exact beq_eq_false_iff_ne.2 (by omega))|trace_state
 · rw [show inFB fr to_ la c = false from decide_eq_false h] at hw
   rw [show opFB I fr to_ la c = false from decide_eq_false fun e=>h e.1]
   clear h
   refine Ev1.of_fin cfg_ok Try.func102 rfl (nt:=21) rfl rfl rfl ?_
   conv=>whnf
   repeat' (first|exact trivial|((first|refine kL ?_|(refine ⟨fun hb=>?_,fun hb=>?_⟩<;>(try simp only [nrm] at hb)<;>(try (first|(exfalso;omega)|contradiction|exact kB hb)))|refine kE hw [(0,0),(1,1),(3,3)] rfl ?_|refine kF hw [(0,0),(1,1),(3,3)] rfl ?_|refine kW cfg_ok ?_|refine kC ?_|refine bdA ?_|refine bd2 ?_|refine bdR ?_|refine bdL ?_)<;>(conv=>whnf))|(refine And.intro ?_ ?_;rotate_left;(conv=>whnf);rotate_right))
   all_goals first|rfl|omega|trace_state
theorem laidF_succ (w : Wld) (fr to_ la : Int) (j : Nat) : laidF w fr to_ la (j + 1) = rowF w fr to_ la j (laidF w fr to_ la j) (to_ / 8 + 1 - fr / 8).toNat:=rfl
theorem rowF_succ (w : Wld) (fr to_ la cy : Int) (s : PF × Nat) (j : Nat) : rowF w fr to_ la cy s (j + 1) = cellsF fr to_ la (fr / 8 + j) cy (chunkW w (fr / 8 + j) cy).1.cells (rowF w fr to_ la cy s j) 64:=rfl
theorem flaid_ev (w : Wld) (fr to_ la : Int) (hw : OkW w) (hR : RW w) (h1 : 0 ≤ fr) (h2 : fr ≤ to_) (h3 : to_ < 8 * w.size) (h4 : 0 ≤ la) (h5 : la < 8 * w.size) :
   Ev1 Try.prog 60 [wldV w,i64 fr,i64 to_,i64 la] [] (.ptr 390001 0) (fldM 390001 390003 390005 fr to_ la (cellsOfF w fr to_ la).1 noF (cellsOfF w fr to_ la).2 0):=by
 have hsz:=hR.size
 have hch : ∀ x y : Int,0 ≤ x → x < w.size → 0 ≤ y → y < w.size → Api Try.prog 19 [wldV w,i64 x,i64 y] (.tup [chunkV (chunkW w x y).1,bol true]) ∧ (chunkW w x y).1.cells.length = 64:=fun x y h1 h2 h3 h4=>by
   have h:=wchunk_api w x y hw
   have h5:=(chunkW_in hR ⟨h1,h2⟩ ⟨h3,h4⟩).1
   have h6 : (chunkW w x y).2 = true:=by rw [h5]
   rw [h6] at h
   exact ⟨h,chunkW_len h6⟩
 obtain ⟨ny,hny⟩ : ∃ ny : Nat,ny = (la / 8 + 1).toNat:=⟨_,rfl⟩
 obtain ⟨nx,hnx⟩ : ∃ nx : Nat,nx = (to_ / 8 + 1 - fr / 8).toNat:=⟨_,rfl⟩
 obtain ⟨x0,hx0⟩ : ∃ x0 : Int,x0 = fr / 8:=⟨_,rfl⟩
 unfold cellsOfF
 rw [← hny]
 refine Ev1.of_finR cfg_ok Try.func60 rfl [(200046,390001),(200040,390003),(200042,390005)] (nt:=71) rfl ?_
 conv=>whnf
 repeat' (first|exact trivial|((first|refine kL ?_|(refine ⟨fun hb=>?_,fun hb=>?_⟩<;>(try simp only [nrm] at hb)<;>(try (first|(exfalso;omega)|contradiction|exact kB hb)))|refine kW cfg_ok ?_|refine kC ?_|refine bdA ?_|refine bd2 ?_|refine bdR ?_|refine bdL ?_)<;>(conv=>whnf))|(refine And.intro ?_ ?_;rotate_left;(conv=>whnf);rotate_right))
 all_goals first|omega|skip
 refine Runs.loopQ cfg_ok (σ:=Nat) [1,2,3,4,9,10] (fun j=>[i64 fr,i64 to_,i64 la,.ptr 200008 0,.ptr 200046 0,i64 (j : Nat)])
   (fun j=>(200008,.box (wldC w)) :: fldM 200046 200040 200042 fr to_ la (laidF w fr to_ la j).1 noF (laidF w fr to_ la j).2 0)
   (fun j=>j ≤ ny) (fun j=>ny - j) 0 (by omega) ?_ ?_
 · conv=>whnf
   repeat' (first|exact trivial|((first|refine kL ?_|(refine ⟨fun hb=>?_,fun hb=>?_⟩<;>(try simp only [nrm] at hb)<;>(try (first|(exfalso;omega)|contradiction|exact kB hb)))|refine kW cfg_ok ?_|refine kC ?_|refine bdA ?_|refine bd2 ?_|refine bdR ?_|refine bdL ?_)<;>(conv=>whnf))|(refine And.intro ?_ ?_;rotate_left;(conv=>whnf);rotate_right))
   all_goals first|rfl|omega|(simp;done)|trace_state
 · intro j hj N1 hN1 hE1 hT1
   by_cases hlt : j < ny
   · have hsl:=laidF_succ w fr to_ la j
     rw [← hnx] at hsl
     conv=>whnf
     repeat' (first|exact trivial|((first|refine kL ?_|(refine ⟨fun hb=>?_,fun hb=>?_⟩<;>(try simp only [nrm] at hb)<;>(try (first|(exfalso;omega)|contradiction|exact kB hb)))|refine kW cfg_ok ?_|refine kC ?_|refine bdA ?_|refine bd2 ?_|refine bdR ?_|refine bdL ?_)<;>(conv=>whnf))|(refine And.intro ?_ ?_;rotate_left;(conv=>whnf);rotate_right))
     all_goals first|omega|skip
     generalize hS : laidF w fr to_ la j = S at *
     refine Runs.loopQ cfg_ok (σ:=Nat) [1,2,3,4,9,10,11] (fun i=>[i64 fr,i64 to_,i64 la,.ptr 200008 0,.ptr 200046 0,i64 (j : Nat),i64 (x0 + (i : Nat))])
       (fun i=>(200008,.box (wldC w)) :: fldM 200046 200040 200042 fr to_ la (rowF w fr to_ la j S i).1 noF (rowF w fr to_ la j S i).2 0)
       (fun i=>i ≤ nx) (fun i=>nx - i) 0 (by omega) ?_ ?_
     · conv=>whnf
       repeat' (first|exact trivial|((first|refine kL ?_|(refine ⟨fun hb=>?_,fun hb=>?_⟩<;>(try simp only [nrm] at hb)<;>(try (first|(exfalso;omega)|contradiction|exact kB hb)))|refine kW cfg_ok ?_|refine kC ?_|refine bdA ?_|refine bd2 ?_|refine bdR ?_|refine bdL ?_)<;>(conv=>whnf))|(refine And.intro ?_ ?_;rotate_left;(conv=>whnf);rotate_right))
       all_goals first|rfl|omega|(simp;done)|(refine congrArg (Value.int .i64) ?_;omega)|trace_state
     · intro i hi N2 hN2 hE2 hT2
       by_cases hli : i < nx
       · obtain ⟨hcc,hcl⟩:=hch (x0 + (i : Nat)) (j : Nat) (by omega) (by omega) (by omega) (by omega)
         have hsu:=rowF_succ w fr to_ la j S i
         rw [← hx0] at hsu
         have hbx : 0 ≤ x0 + (i : Nat) ∧ x0 + (i : Nat) ≤ 16:=by omega
         generalize hCk : (chunkW w (x0 + (i : Nat)) (j : Nat)).1 = Ck at *
         generalize hR1 : rowF w fr to_ la j S (i + 1) = R1 at *
         generalize rowF w fr to_ la j S i = R0 at *
         conv=>whnf
         repeat' (first|exact trivial|((first|refine kL ?_|(refine ⟨fun hb=>?_,fun hb=>?_⟩<;>(try simp only [nrm] at hb)<;>(try (first|(exfalso;omega)|contradiction|exact kB hb)))|refine kA hcc ?_|refine kD hcc ?_|refine kW cfg_ok ?_|refine kC ?_|refine bdA ?_|refine bd2 ?_|refine bdR ?_|refine bdL ?_)<;>(conv=>whnf))|(refine And.intro ?_ ?_;rotate_left;(conv=>whnf);rotate_right))
         all_goals first|omega|skip
         refine Runs.loopQ cfg_ok (σ:=Nat) [1,2,3,4,9,10,11,46,47,48] (fun k=>[i64 fr,i64 to_,i64 la,.ptr 200008 0,.ptr 200046 0,i64 (j : Nat),i64 (x0 + (i : Nat)),.vec .u8 Ck.cells,i64 Ck.cells.length,i64 k])
           (fun k=>(200008,.box (wldC w)) :: fldM 200046 200040 200042 fr to_ la (cellsF fr to_ la (x0 + (i : Nat)) j Ck.cells R0 k).1 noF (cellsF fr to_ la (x0 + (i : Nat)) j Ck.cells R0 k).2 0)
           (fun k=>k ≤ Ck.cells.length) (fun k=>Ck.cells.length - k) 0 (by omega) ?_ ?_
         · conv=>whnf
           repeat' (first|exact trivial|((first|refine kL ?_|(refine ⟨fun hb=>?_,fun hb=>?_⟩<;>(try simp only [nrm] at hb)<;>(try (first|(exfalso;omega)|contradiction|exact kB hb)))|refine kW cfg_ok ?_|refine kC ?_|refine bdA ?_|refine bd2 ?_|refine bdR ?_|refine bdL ?_)<;>(conv=>whnf))|(refine And.intro ?_ ?_;rotate_left;(conv=>whnf);rotate_right))
           all_goals first|rfl|omega|(simp;done)|trace_state
         · intro k hk N3 hN3 hE3 hT3
           generalize hX : x0 + (i : Nat) = X at *
           by_cases hlk : k < Ck.cells.length
           · have hwi:=fwithin_ev fr to_ la (cellsF fr to_ la X j Ck.cells R0 k).1 noF (cellsF fr to_ la X j Ck.cells R0 k).2 0 ⟨X * 8 + (k : Int) % 8,(j : Int) * 8 + (k : Int) / 8⟩
             by_cases h0 : inF fr to_ la ⟨X * 8 + (k : Int) % 8,(j : Int) * 8 + (k : Int) / 8⟩
             · have hcs : cellsF fr to_ la X j Ck.cells R0 (k + 1) = putM (cellsF fr to_ la X j Ck.cells R0 k) (X * 8 + (k : Int) % 8) ((j : Int) * 8 + (k : Int) / 8) (elt .u8 Ck.cells k):=by
                 show (if inF fr to_ la ⟨X * 8 + (k : Int) % 8,(j : Int) * 8 + (k : Int) / 8⟩ then _ else _) = _
                 rw [if_pos h0]
               rw [show inFB fr to_ la ⟨X * 8 + (k : Int) % 8,(j : Int) * 8 + (k : Int) / 8⟩ = true from decide_eq_true h0] at hwi
               clear h0
               conv=>whnf
               repeat' (first|exact trivial|((first|refine kL ?_|(refine ⟨fun hb=>?_,fun hb=>?_⟩<;>(try simp only [nrm] at hb)<;>(try (first|(exfalso;omega)|contradiction|exact kB hb)))|refine kE hwi [(0,200046),(1,200040),(3,200042)] rfl ?_|refine kF hwi [(0,200046),(1,200040),(3,200042)] rfl ?_|refine kW cfg_ok ?_|refine kC ?_|refine bdA ?_|refine bd2 ?_|refine bdR ?_|refine bdL ?_)<;>(conv=>whnf))|(refine And.intro ?_ ?_;rotate_left;(conv=>whnf);rotate_right))
               all_goals first|omega|skip
               refine hN3 _ _ ?_
               conv=>whnf
               refine .to (k + 1) (by omega) (by omega) ?_
               conv=>whnf
               repeat' (first|exact trivial|((first|refine kL ?_|(refine ⟨fun hb=>?_,fun hb=>?_⟩<;>(try simp only [nrm] at hb)<;>(try (first|(exfalso;omega)|contradiction|exact kB hb)))|refine kW cfg_ok ?_|refine kC ?_|refine bdA ?_|refine bd2 ?_|refine bdR ?_|refine bdL ?_)<;>(conv=>whnf))|(refine And.intro ?_ ?_;rotate_left;(conv=>whnf);rotate_right))
               all_goals first|rfl|omega|(rw [hcs];done)|(rw [hcs];exact rfl)|trace_state
             · have hcs : cellsF fr to_ la X j Ck.cells R0 (k + 1) = cellsF fr to_ la X j Ck.cells R0 k:=by
                 show (if inF fr to_ la ⟨X * 8 + (k : Int) % 8,(j : Int) * 8 + (k : Int) / 8⟩ then _ else _) = _
                 rw [if_neg h0]
               rw [show inFB fr to_ la ⟨X * 8 + (k : Int) % 8,(j : Int) * 8 + (k : Int) / 8⟩ = false from decide_eq_false h0] at hwi
               clear h0
               conv=>whnf
               repeat' (first|exact trivial|((first|refine kL ?_|(refine ⟨fun hb=>?_,fun hb=>?_⟩<;>(try simp only [nrm] at hb)<;>(try (first|(exfalso;omega)|contradiction|exact kB hb)))|refine kE hwi [(0,200046),(1,200040),(3,200042)] rfl ?_|refine kF hwi [(0,200046),(1,200040),(3,200042)] rfl ?_|refine kW cfg_ok ?_|refine kC ?_|refine bdA ?_|refine bd2 ?_|refine bdR ?_|refine bdL ?_)<;>(conv=>whnf))|(refine And.intro ?_ ?_;rotate_left;(conv=>whnf);rotate_right))
               all_goals first|omega|skip
               refine hN3 _ _ ?_
               conv=>whnf
               refine .to (k + 1) (by omega) (by omega) ?_
               conv=>whnf
               repeat' (first|exact trivial|((first|refine kL ?_|(refine ⟨fun hb=>?_,fun hb=>?_⟩<;>(try simp only [nrm] at hb)<;>(try (first|(exfalso;omega)|contradiction|exact kB hb)))|refine kW cfg_ok ?_|refine kC ?_|refine bdA ?_|refine bd2 ?_|refine bdR ?_|refine bdL ?_)<;>(conv=>whnf))|(refine And.intro ?_ ?_;rotate_left;(conv=>whnf);rotate_right))
               all_goals first|rfl|omega|(rw [hcs];done)|(rw [hcs];exact rfl)|trace_state
           · obtain rfl : k = Ck.cells.length:=by omega
             conv=>whnf
             repeat' (first|exact trivial|((first|refine kL ?_|(refine ⟨fun hb=>?_,fun hb=>?_⟩<;>(try simp only [nrm] at hb)<;>(try (first|(exfalso;omega)|contradiction|exact kB hb)))|refine kW cfg_ok ?_|refine kC ?_|refine bdA ?_|refine bd2 ?_|refine bdR ?_|refine bdL ?_)<;>(conv=>whnf))|(refine And.intro ?_ ?_;rotate_left;(conv=>whnf);rotate_right))
             refine hE3 _ _ _ ?_
             conv=>whnf
             repeat' (first|exact trivial|((first|refine kL ?_|(refine ⟨fun hb=>?_,fun hb=>?_⟩<;>(try simp only [nrm] at hb)<;>(try (first|(exfalso;omega)|contradiction|exact kB hb)))|refine kW cfg_ok ?_|refine kC ?_|refine bdA ?_|refine bd2 ?_|refine bdR ?_|refine bdL ?_)<;>(conv=>whnf))|(refine And.intro ?_ ?_;rotate_left;(conv=>whnf);rotate_right))
             refine hN2 _ _ ?_
             conv=>whnf
             refine .to (i + 1) (by omega) (by omega) ?_
             conv=>whnf
             repeat' (first|exact trivial|((first|refine kL ?_|(refine ⟨fun hb=>?_,fun hb=>?_⟩<;>(try simp only [nrm] at hb)<;>(try (first|(exfalso;omega)|contradiction|exact kB hb)))|refine kW cfg_ok ?_|refine kC ?_|refine bdA ?_|refine bd2 ?_|refine bdR ?_|refine bdL ?_)<;>(conv=>whnf))|(refine And.intro ?_ ?_;rotate_left;(conv=>whnf);rotate_right))
             all_goals first|rfl|omega|(rw [hcl,hR1,hsu];done)|(rw [hcl,hR1,hsu];exact rfl)|trace_state
       · obtain rfl : i = nx:=by omega
         conv=>whnf
         repeat' (first|exact trivial|((first|refine kL ?_|(refine ⟨fun hb=>?_,fun hb=>?_⟩<;>(try simp only [nrm] at hb)<;>(try (first|(exfalso;omega)|contradiction|exact kB hb)))|refine kW cfg_ok ?_|refine kC ?_|refine bdA ?_|refine bd2 ?_|refine bdR ?_|refine bdL ?_)<;>(conv=>whnf))|(refine And.intro ?_ ?_;rotate_left;(conv=>whnf);rotate_right))
         all_goals first|omega|skip
         refine hE2 _ _ _ ?_
         conv=>whnf
         repeat' (first|exact trivial|((first|refine kL ?_|(refine ⟨fun hb=>?_,fun hb=>?_⟩<;>(try simp only [nrm] at hb)<;>(try (first|(exfalso;omega)|contradiction|exact kB hb)))|refine kW cfg_ok ?_|refine kC ?_|refine bdA ?_|refine bd2 ?_|refine bdR ?_|refine bdL ?_)<;>(conv=>whnf))|(refine And.intro ?_ ?_;rotate_left;(conv=>whnf);rotate_right))
         refine hN1 _ _ ?_
         conv=>whnf
         refine .to (j + 1) (by omega) (by omega) ?_
         conv=>whnf
         repeat' (first|exact trivial|((first|refine kL ?_|(refine ⟨fun hb=>?_,fun hb=>?_⟩<;>(try simp only [nrm] at hb)<;>(try (first|(exfalso;omega)|contradiction|exact kB hb)))|refine kW cfg_ok ?_|refine kC ?_|refine bdA ?_|refine bd2 ?_|refine bdR ?_|refine bdL ?_)<;>(conv=>whnf))|(refine And.intro ?_ ?_;rotate_left;(conv=>whnf);rotate_right))
         all_goals first|rfl|omega|(rw [hsl];done)|(rw [hsl];exact rfl)|trace_state
   · obtain rfl : j = ny:=by omega
     conv=>whnf
     repeat' (first|exact trivial|((first|refine kL ?_|(refine ⟨fun hb=>?_,fun hb=>?_⟩<;>(try simp only [nrm] at hb)<;>(try (first|(exfalso;omega)|contradiction|exact kB hb)))|refine kW cfg_ok ?_|refine kC ?_|refine bdA ?_|refine bd2 ?_|refine bdR ?_|refine bdL ?_)<;>(conv=>whnf))|(refine And.intro ?_ ?_;rotate_left;(conv=>whnf);rotate_right))
     all_goals first|omega|skip
     refine hE1 _ _ _ ?_
     conv=>whnf
     repeat' (first|exact trivial|((first|refine kL ?_|(refine ⟨fun hb=>?_,fun hb=>?_⟩<;>(try simp only [nrm] at hb)<;>(try (first|(exfalso;omega)|contradiction|exact kB hb)))|refine kW cfg_ok ?_|refine kC ?_|refine bdA ?_|refine bd2 ?_|refine bdR ?_|refine bdL ?_)<;>(conv=>whnf))|(refine And.intro ?_ ?_;rotate_left;(conv=>whnf);rotate_right))
     all_goals first|rfl|omega|trace_state
open Go Go.RowKit Eng
abbrev nilS : AV:=.lit (.slice none 0 0)
abbrev byC (a b : AV) : List AV:=[nilS,nilS,nilS,nilS,nilS,nilS,nilS,nilS,nilS,nilS,nilS,nilS,nilS,nilS,a,b]
theorem grow_pos (S : List Pos) (b : Pos) : List.take (S.length + (List.take 1 (List.drop 0 [(⟨b.x,b.y⟩ : Pos)])).length) (List.take S.length S ++ List.take 1 (List.drop 0 [(⟨b.x,b.y⟩ : Pos)])) = S ++ [b]:=by
 simp only [List.drop_zero,List.take_length]
 exact List.take_of_length_le (by simp)
theorem tell15_ev (c : Pos) (L A : List (El .pos)) (hl : L.length ≤ 100000) : Ev1 Try.prog 101 [.agg [i64 c.x,i64 c.y],i64 15,.ptr 0 0] [(0,.box (byC (.own .pos 3 0 A.length none) (.own .pos 1 0 L.length none))),(1,.row .pos L),(3,.row .pos A)] (.tup []) [(0,.box (byC (.own .pos 3 0 A.length none) (.own .pos 390001 0 (L.length + 1) none))),(390001,.row .pos (L ++ [c])),(3,.row .pos A)]:=by
 refine Ev1.of_fin cfg_ok Try.func101 rfl (nt:=10) rfl rfl rfl ?_
 conv=>whnf
 repeat' (first|exact trivial|((first|refine kL ?_|(refine ⟨fun hb=>?_,fun hb=>?_⟩<;>(try simp only [nrm] at hb)<;>(try (first|(exfalso;omega)|contradiction|exact kB hb)))|refine kW cfg_ok ?_|refine kC ?_|refine bdA ?_|refine bd2 ?_|refine bdR ?_|refine bdL ?_)<;>(conv=>whnf))|(refine And.intro ?_ ?_;rotate_left;(conv=>whnf);rotate_right))
 all_goals first|rfl|omega|exact grow_pos _ _|exact List.take_length|(simp;done)|trace_state
theorem tell14_ev (c : Pos) (L A : List (El .pos)) (hl : A.length ≤ 100000) : Ev1 Try.prog 101 [.agg [i64 c.x,i64 c.y],i64 14,.ptr 0 0] [(0,.box (byC (.own .pos 3 0 A.length none) (.own .pos 1 0 L.length none))),(1,.row .pos L),(3,.row .pos A)] (.tup []) [(0,.box (byC (.own .pos 390001 0 (A.length + 1) none) (.own .pos 1 0 L.length none))),(1,.row .pos L),(390001,.row .pos (A ++ [c]))]:=by
 refine Ev1.of_fin cfg_ok Try.func101 rfl (nt:=10) rfl rfl rfl ?_
 conv=>whnf
 repeat' (first|exact trivial|((first|refine kL ?_|(refine ⟨fun hb=>?_,fun hb=>?_⟩<;>(try simp only [nrm] at hb)<;>(try (first|(exfalso;omega)|contradiction|exact kB hb)))|refine kW cfg_ok ?_|refine kC ?_|refine bdA ?_|refine bd2 ?_|refine bdR ?_|refine bdL ?_)<;>(conv=>whnf))|(refine And.intro ?_ ?_;rotate_left;(conv=>whnf);rotate_right))
 all_goals first|rfl|omega|exact grow_pos _ _|exact List.take_length|(simp;done)|trace_state
theorem colF_len (I : PF) (x : Int) (st : List Pos × List Pos) : ∀ y : Nat,(colF I x st y).2.1.length ≤ st.1.length + y ∧ (colF I x st y).2.2.length ≤ st.2.length + y:=by
 intro y
 induction y with
 | zero=>exact ⟨Nat.le_refl _,Nat.le_refl _⟩
 | succ y ih =>
   unfold colF
   split
   · dsimp only;rw [List.length_append];simp only [List.length_cons,List.length_nil];omega
   · split
     · dsimp only;rw [List.length_append];simp only [List.length_cons,List.length_nil];omega
     · dsimp only;omega
theorem srcF_len (I : PF) (fr la : Int) : ∀ j : Nat,(srcF I fr la j).1.length ≤ j * (la + 1).toNat ∧ (srcF I fr la j).2.length ≤ j * (la + 1).toNat:=by
 intro j
 induction j with
 | zero=>exact ⟨Nat.zero_le _,Nat.zero_le _⟩
 | succ j ih =>
   have:=colF_len I (fr + (j : Nat)) (srcF I fr la j) (la + 1).toNat
   rw [show srcF I fr la (j + 1) = (colF I (fr + (j : Nat)) (srcF I fr la j) (la + 1).toNat).2 from rfl,Nat.succ_mul]
   omega
theorem colF_up {I : PF} {x : Int} {st : List Pos × List Pos} {y : Nat} (h : (colF I x st y).1 = true) (h2 : getZ (I x (y : Nat)) = 0) : colF I x st (y + 1) = (true,((colF I x st y).2.1 ++ [⟨x,(y : Nat)⟩],(colF I x st y).2.2)):=by
 show (if (colF I x st y).1 = true ∧ getZ (I x (y : Nat)) = 0 then _ else _) = _
 rw [if_pos ⟨h,h2⟩]
theorem colF_torch {I : PF} {x : Int} {st : List Pos × List Pos} {y : Nat} (h2 : getZ (I x (y : Nat)) = 10) : colF I x st (y + 1) = (false,((colF I x st y).2.1,(colF I x st y).2.2 ++ [⟨x,(y : Nat)⟩])):=by
 show (if (colF I x st y).1 = true ∧ getZ (I x (y : Nat)) = 0 then _ else _) = _
 rw [if_neg (fun e=>by omega),if_pos h2]
theorem colF_no {I : PF} {x : Int} {st : List Pos × List Pos} {y : Nat} (h : ¬ ((colF I x st y).1 = true ∧ getZ (I x (y : Nat)) = 0)) (h2 : ¬ getZ (I x (y : Nat)) = 10) : colF I x st (y + 1) = (false,(colF I x st y).2):=by
 show (if (colF I x st y).1 = true ∧ getZ (I x (y : Nat)) = 0 then _ else _) = _
 rw [if_neg h,if_neg h2]
abbrev tellF (a : Nat) : AV:=.clo (.func 101) [] [.ptr a 0]
theorem fsources_ev (fr to_ la : Int) (I : PF) (nI : Nat) (h1 : 0 ≤ fr) (h2 : fr ≤ to_) (h3 : to_ < 128) (h4 : 0 ≤ la) (h5 : la < 128) :
   Ev1 Try.prog 100 [.ptr 0 0,tellF 8] ((8,.box (byC nilS nilS)) :: fldM 0 1 3 fr to_ la I noF nI 0) (.tup [])
     ((8,.box (byC (.own .pos 390003 0 (srcF I fr la (to_ + 1 - fr).toNat).2.length none) (.own .pos 390001 0 (srcF I fr la (to_ + 1 - fr).toNat).1.length none))) :: (390001,.row .pos (srcF I fr la (to_ + 1 - fr).toNat).1) :: (390003,.row .pos (srcF I fr la (to_ + 1 - fr).toNat).2) :: fldM 0 1 3 fr to_ la I noF nI 0):=by
 have hlen:=srcF_len I fr la
 obtain ⟨nx,hnx⟩ : ∃ nx : Nat,nx = (to_ + 1 - fr).toNat:=⟨_,rfl⟩
 obtain ⟨ny,hny⟩ : ∃ ny : Nat,ny = (la + 1).toNat:=⟨_,rfl⟩
 have hsucc : ∀ j : Nat,srcF I fr la (j + 1) = (colF I (fr + (j : Nat)) (srcF I fr la j) ny).2:=fun j=>by rw [hny];rfl
 have hcl : ∀ (j : Nat) (y : Nat),j < nx → y ≤ ny → (colF I (fr + (j : Nat)) (srcF I fr la j) y).2.1.length ≤ 20000 ∧ (colF I (fr + (j : Nat)) (srcF I fr la j) y).2.2.length ≤ 20000:=fun j y hj hy=>by
   have a1:=colF_len I (fr + (j : Nat)) (srcF I fr la j) y
   have a2:=hlen j
   have a3 : j * (la + 1).toNat ≤ 128 * 128:=Nat.mul_le_mul (by omega) (by omega)
   omega
 rw [← hnx]
 have h0 : srcF I fr la 0 = ([],[]):=rfl
 refine Ev1.of_fin cfg_ok Try.func100 rfl (nt:=55) rfl rfl rfl ?_
 conv=>whnf
 repeat' (first|exact trivial|((first|refine kL ?_|(refine ⟨fun hb=>?_,fun hb=>?_⟩<;>(try simp only [nrm] at hb)<;>(try (first|(exfalso;omega)|contradiction|exact kB hb)))|refine kW cfg_ok ?_|refine kC ?_|refine bdA ?_|refine bd2 ?_|refine bdR ?_|refine bdL ?_)<;>(conv=>whnf))|(refine And.intro ?_ ?_;rotate_left;(conv=>whnf);rotate_right))
 all_goals first|omega|skip
 refine Runs.loopQ cfg_ok (σ:=Nat) [0,1,4] (fun j=>[.ptr 0 0,tellF 8,i64 (fr + (j : Nat))])
   (fun j=>(8,.box (byC (.own .pos 350003 0 (srcF I fr la j).2.length none) (.own .pos 350001 0 (srcF I fr la j).1.length none))) :: (350001,.row .pos (srcF I fr la j).1) :: (350003,.row .pos (srcF I fr la j).2) :: fldM 0 1 3 fr to_ la I noF nI 0)
   (fun j=>j ≤ nx) (fun j=>nx - j) 0 (by omega) ?_ ?_
 · conv=>whnf
   repeat' (first|exact trivial|((first|refine kL ?_|(refine ⟨fun hb=>?_,fun hb=>?_⟩<;>(try simp only [nrm] at hb)<;>(try (first|(exfalso;omega)|contradiction|exact kB hb)))|refine kW cfg_ok ?_|refine kC ?_|refine bdA ?_|refine bd2 ?_|refine bdR ?_|refine bdL ?_)<;>(conv=>whnf))|(refine And.intro ?_ ?_;rotate_left;(conv=>whnf);rotate_right))
   all_goals first|rfl|omega|(simp;done)|(refine congrArg (Value.int .i64) ?_;omega)|trace_state
 · intro j hj N1 hN1 hE1 hT1
   have hcj:=hcl j
   have hsu:=hsucc j
   by_cases hlt : j < nx
   · conv=>whnf
     repeat' (first|exact trivial|((first|refine kL ?_|(refine ⟨fun hb=>?_,fun hb=>?_⟩<;>(try simp only [nrm] at hb)<;>(try (first|(exfalso;omega)|contradiction|exact kB hb)))|refine kW cfg_ok ?_|refine kC ?_|refine bdA ?_|refine bd2 ?_|refine bdR ?_|refine bdL ?_)<;>(conv=>whnf))|(refine And.intro ?_ ?_;rotate_left;(conv=>whnf);rotate_right))
     all_goals first|omega|skip
     have hc0 : colF I (fr + (j : Nat)) (srcF I fr la j) 0 = (true,srcF I fr la j):=rfl
     have hup:=@colF_up I (fr + (j : Nat)) (srcF I fr la j)
     have hto:=@colF_torch I (fr + (j : Nat)) (srcF I fr la j)
     have hno:=@colF_no I (fr + (j : Nat)) (srcF I fr la j)
     generalize hCC : colF I (fr + (j : Nat)) (srcF I fr la j) = CC at *
     refine Runs.loopQ cfg_ok (σ:=Nat) [0,1,4,5,6] (fun y=>[.ptr 0 0,tellF 8,i64 (fr + (j : Nat)),bol (CC y).1,i64 (y : Nat)])
       (fun y=>(8,.box (byC (.own .pos 350003 0 (CC y).2.2.length none) (.own .pos 350001 0 (CC y).2.1.length none))) :: (350001,.row .pos (CC y).2.1) :: (350003,.row .pos (CC y).2.2) :: fldM 0 1 3 fr to_ la I noF nI 0)
       (fun y=>y ≤ ny) (fun y=>ny - y) 0 (by omega) ?_ ?_
     · conv=>whnf
       repeat' (first|exact trivial|((first|refine kL ?_|(refine ⟨fun hb=>?_,fun hb=>?_⟩<;>(try simp only [nrm] at hb)<;>(try (first|(exfalso;omega)|contradiction|exact kB hb)))|refine kW cfg_ok ?_|refine kC ?_|refine bdA ?_|refine bd2 ?_|refine bdR ?_|refine bdL ?_)<;>(conv=>whnf))|(refine And.intro ?_ ?_;rotate_left;(conv=>whnf);rotate_right))
       all_goals first|rfl|omega|(simp;done)|(rw [hc0];done)|(rw [hc0];exact rfl)|(rw [hc0];exact List.take_length)|trace_state
     · intro y hy N2 hN2 hE2 hT2
       by_cases hly : y < ny
       · obtain ⟨b1,b2⟩:=hcj y hlt hy
         have t15:=tell15_ev ⟨fr + (j : Nat),(y : Nat)⟩ (CC y).2.1 (CC y).2.2 (by omega)
         have t14:=tell14_ev ⟨fr + (j : Nat),(y : Nat)⟩ (CC y).2.1 (CC y).2.2 (by omega)
         have hup:=hup (y:=y)
         have hto:=hto (y:=y)
         have hno:=hno (y:=y)
         generalize hX : fr + (j : Nat) = X at *
         cases hs : (CC y).1 with
         | true =>
           conv=>whnf
           repeat' (first|exact trivial|((first|refine kL ?_|(refine ⟨fun hb=>?_,fun hb=>?_⟩<;>(try simp only [nrm] at hb)<;>(try (first|(exfalso;omega)|contradiction|exact kB hb)))|refine kE t15 [(0,8),(1,350001),(3,350003),(390001,350005)] rfl ?_|refine kF t15 [(0,8),(1,350001),(3,350003),(390001,350005)] rfl ?_|refine kE t14 [(0,8),(1,350001),(3,350003),(390001,350005)] rfl ?_|refine kF t14 [(0,8),(1,350001),(3,350003),(390001,350005)] rfl ?_|refine kW cfg_ok ?_|refine kC ?_|refine bdA ?_|refine bd2 ?_|refine bdR ?_|refine bdL ?_)<;>(conv=>whnf))|(refine And.intro ?_ ?_;rotate_left;(conv=>whnf);rotate_right))
           all_goals first|omega|skip
           all_goals
             first
               | have hcs:=hup hs (by assumption)
               | have hcs:=hto (by assumption)
               | have hcs:=hno (fun e=>absurd e.2 (by assumption)) (by assumption)
               | have hcs:=hno (fun e=>absurd (hs.symm.trans e.1) (by simp)) (by assumption)
             refine hN2 _ _ ?_
             conv=>whnf
             refine .to (y + 1) (by omega) (by omega) ?_
             conv=>whnf
             repeat' (first|exact trivial|((first|refine kL ?_|(refine ⟨fun hb=>?_,fun hb=>?_⟩<;>(try simp only [nrm] at hb)<;>(try (first|(exfalso;omega)|contradiction|exact kB hb)))|refine kW cfg_ok ?_|refine kC ?_|refine bdA ?_|refine bd2 ?_|refine bdR ?_|refine bdL ?_)<;>(conv=>whnf))|(refine And.intro ?_ ?_;rotate_left;(conv=>whnf);rotate_right))
             all_goals first|rfl|omega|(rw [hcs];done)|(rw [hcs];exact rfl)|(rw [hcs];exact List.take_length)|(rw [hcs];exact List.take_of_length_le (by simp))|(rw [hcs];simp;done)|(rw [hcs];refine congrArg Value.bool ?_;exact beq_iff_eq.2 (by assumption))|(rw [hcs];refine congrArg Value.bool ?_;exact beq_eq_false_iff_ne.2 (by omega))|trace_state
         | false =>
           conv=>whnf
           repeat' (first|exact trivial|((first|refine kL ?_|(refine ⟨fun hb=>?_,fun hb=>?_⟩<;>(try simp only [nrm] at hb)<;>(try (first|(exfalso;omega)|contradiction|exact kB hb)))|refine kE t15 [(0,8),(1,350001),(3,350003),(390001,350005)] rfl ?_|refine kF t15 [(0,8),(1,350001),(3,350003),(390001,350005)] rfl ?_|refine kE t14 [(0,8),(1,350001),(3,350003),(390001,350005)] rfl ?_|refine kF t14 [(0,8),(1,350001),(3,350003),(390001,350005)] rfl ?_|refine kW cfg_ok ?_|refine kC ?_|refine bdA ?_|refine bd2 ?_|refine bdR ?_|refine bdL ?_)<;>(conv=>whnf))|(refine And.intro ?_ ?_;rotate_left;(conv=>whnf);rotate_right))
           all_goals first|omega|skip
           all_goals
             first
               | have hcs:=hup hs (by assumption)
               | have hcs:=hto (by assumption)
               | have hcs:=hno (fun e=>absurd e.2 (by assumption)) (by assumption)
               | have hcs:=hno (fun e=>absurd (hs.symm.trans e.1) (by simp)) (by assumption)
             refine hN2 _ _ ?_
             conv=>whnf
             refine .to (y + 1) (by omega) (by omega) ?_
             conv=>whnf
             repeat' (first|exact trivial|((first|refine kL ?_|(refine ⟨fun hb=>?_,fun hb=>?_⟩<;>(try simp only [nrm] at hb)<;>(try (first|(exfalso;omega)|contradiction|exact kB hb)))|refine kW cfg_ok ?_|refine kC ?_|refine bdA ?_|refine bd2 ?_|refine bdR ?_|refine bdL ?_)<;>(conv=>whnf))|(refine And.intro ?_ ?_;rotate_left;(conv=>whnf);rotate_right))
             all_goals first|rfl|omega|(rw [hcs];done)|(rw [hcs];exact rfl)|(rw [hcs];exact List.take_length)|(rw [hcs];exact List.take_of_length_le (by simp))|(rw [hcs];simp;done)|(rw [hcs];refine congrArg Value.bool ?_;exact beq_iff_eq.2 (by assumption))|(rw [hcs];refine congrArg Value.bool ?_;exact beq_eq_false_iff_ne.2 (by omega))|trace_state
       · obtain rfl : y = ny:=by omega
         conv=>whnf
         repeat' (first|exact trivial|((first|refine kL ?_|(refine ⟨fun hb=>?_,fun hb=>?_⟩<;>(try simp only [nrm] at hb)<;>(try (first|(exfalso;omega)|contradiction|exact kB hb)))|refine kW cfg_ok ?_|refine kC ?_|refine bdA ?_|refine bd2 ?_|refine bdR ?_|refine bdL ?_)<;>(conv=>whnf))|(refine And.intro ?_ ?_;rotate_left;(conv=>whnf);rotate_right))
         all_goals first|omega|skip
         refine hE2 _ _ _ ?_
         conv=>whnf
         repeat' (first|exact trivial|((first|refine kL ?_|(refine ⟨fun hb=>?_,fun hb=>?_⟩<;>(try simp only [nrm] at hb)<;>(try (first|(exfalso;omega)|contradiction|exact kB hb)))|refine kW cfg_ok ?_|refine kC ?_|refine bdA ?_|refine bd2 ?_|refine bdR ?_|refine bdL ?_)<;>(conv=>whnf))|(refine And.intro ?_ ?_;rotate_left;(conv=>whnf);rotate_right))
         refine hN1 _ _ ?_
         conv=>whnf
         refine .to (j + 1) (by omega) (by omega) ?_
         conv=>whnf
         repeat' (first|exact trivial|((first|refine kL ?_|(refine ⟨fun hb=>?_,fun hb=>?_⟩<;>(try simp only [nrm] at hb)<;>(try (first|(exfalso;omega)|contradiction|exact kB hb)))|refine kW cfg_ok ?_|refine kC ?_|refine bdA ?_|refine bd2 ?_|refine bdR ?_|refine bdL ?_)<;>(conv=>whnf))|(refine And.intro ?_ ?_;rotate_left;(conv=>whnf);rotate_right))
         all_goals first|rfl|omega|(rw [hsu];done)|(rw [hsu];exact rfl)|(rw [hsu];exact List.take_length)|trace_state
   · obtain rfl : j = nx:=by omega
     conv=>whnf
     repeat' (first|exact trivial|((first|refine kL ?_|(refine ⟨fun hb=>?_,fun hb=>?_⟩<;>(try simp only [nrm] at hb)<;>(try (first|(exfalso;omega)|contradiction|exact kB hb)))|refine kW cfg_ok ?_|refine kC ?_|refine bdA ?_|refine bd2 ?_|refine bdR ?_|refine bdL ?_)<;>(conv=>whnf))|(refine And.intro ?_ ?_;rotate_left;(conv=>whnf);rotate_right))
     all_goals first|omega|skip
     refine hE1 _ _ _ ?_
     conv=>whnf
     repeat' (first|exact trivial|((first|refine kL ?_|(refine ⟨fun hb=>?_,fun hb=>?_⟩<;>(try simp only [nrm] at hb)<;>(try (first|(exfalso;omega)|contradiction|exact kB hb)))|refine kW cfg_ok ?_|refine kC ?_|refine bdA ?_|refine bd2 ?_|refine bdR ?_|refine bdL ?_)<;>(conv=>whnf))|(refine And.intro ?_ ?_;rotate_left;(conv=>whnf);rotate_right))
     all_goals first|rfl|omega|exact List.take_length|trace_state
open Go Go.RowKit Eng
def dirD (d : Nat) : Pos:=elt .pos dirsL d
def litR (I : PF) (fr to_ la v : Int) (cur : List Pos) (st : (PF × Nat) × List Pos) (j : Nat) : (PF × Nat) × List Pos:=(cur.take j).foldl (litC I fr to_ la v) st
def askM (I : PF) (fr to_ la : Int) (F : PF) (c : Pos) (nx : List Pos) (d : Nat) : List Pos:=(dirsL.take d).foldl (fun nx d=>pushN I fr to_ la F nx (addP c d)) nx
theorem litR_succ (I : PF) (fr to_ la v : Int) (cur : List Pos) (st : (PF × Nat) × List Pos) {j : Nat} (h : j < cur.length) : litR I fr to_ la v cur st (j + 1) = litC I fr to_ la v (litR I fr to_ la v cur st j) (elt .pos cur j):=by
 unfold litR
 rw [List.take_add_one,elt_get .pos cur j h,Option.toList_some,List.foldl_append]
 rfl
theorem askM_succ (I : PF) (fr to_ la : Int) (F : PF) (c : Pos) (nx : List Pos) {d : Nat} (h : d < 4) : askM I fr to_ la F c nx (d + 1) = pushN I fr to_ la F (askM I fr to_ la F c nx d) (addP c (dirD d)):=by
 unfold askM
 have h4 : d < dirsL.length:=h
 rw [List.take_add_one,elt_get .pos dirsL d h4,Option.toList_some,List.foldl_append]
 rfl
theorem litC_on {I : PF} {fr to_ la v : Int} {st : (PF × Nat) × List Pos} {c : Pos} (h : 0 < getZ (st.1.1 c.x c.y)) : litC I fr to_ la v st c = st:=if_pos h
theorem litC_off {I : PF} {fr to_ la v : Int} {st : (PF × Nat) × List Pos} {c : Pos} (h : ¬ 0 < getZ (st.1.1 c.x c.y)) : litC I fr to_ la v st c = (putM st.1 c.x c.y v,askM I fr to_ la (putM st.1 c.x c.y v).1 c st.2 4):=if_neg h
theorem push_len {I : PF} {fr to_ la : Int} {F : PF} {nx : List Pos} {n : Pos} : (pushN I fr to_ la F nx n).length ≤ nx.length + 1:=by
 unfold pushN
 split
 · rw [List.length_append];simp
 · omega
theorem askM_len {I : PF} {fr to_ la : Int} {F : PF} {c : Pos} {nx : List Pos} : ∀ {d : Nat},d ≤ 4 → (askM I fr to_ la F c nx d).length ≤ nx.length + d:=by
 intro d
 induction d with
 | zero=>intro _;exact Nat.le_refl _
 | succ d ih =>
   intro h
   rw [askM_succ _ _ _ _ _ _ _ (by omega)]
   have:=@push_len I fr to_ la F (askM I fr to_ la F c nx d) (addP c (dirD d))
   have:=ih (by omega)
   omega
theorem push_in {I : PF} {fr to_ la : Int} {F : PF} {nx : List Pos} {n : Pos} (h : ∀ c ∈ nx,inF fr to_ la c) : ∀ c ∈ pushN I fr to_ la F nx n,inF fr to_ la c:=by
 unfold pushN
 split
 · rename_i h1
   intro c hc
   rcases List.mem_append.1 hc with hc|hc
   · exact h c hc
   · rw [List.mem_singleton] at hc;rw [hc];exact h1.1.1
 · exact h
theorem askM_in {I : PF} {fr to_ la : Int} {F : PF} {c : Pos} {nx : List Pos} (h : ∀ c ∈ nx,inF fr to_ la c) : ∀ {d : Nat},d ≤ 4 → ∀ a ∈ askM I fr to_ la F c nx d,inF fr to_ la a:=by
 intro d
 induction d with
 | zero=>intro _;exact h
 | succ d ih =>
   intro hd
   rw [askM_succ _ _ _ _ _ _ _ (by omega)]
   exact push_in (ih (by omega))
theorem litR_in {I : PF} {fr to_ la v : Int} {cur : List Pos} {st : (PF × Nat) × List Pos} (h : ∀ c ∈ st.2,inF fr to_ la c) : ∀ {j : Nat},j ≤ cur.length → ∀ a ∈ (litR I fr to_ la v cur st j).2,inF fr to_ la a:=by
 intro j
 induction j with
 | zero=>intro _;exact h
 | succ j ih =>
   intro hj
   rw [litR_succ _ _ _ _ _ _ _ (by omega)]
   by_cases h2 : 0 < getZ ((litR I fr to_ la v cur st j).1.1 (elt .pos cur j).x (elt .pos cur j).y)
   · rw [litC_on h2];exact ih (by omega)
   · rw [litC_off h2];exact askM_in (ih (by omega)) (Nat.le_refl _)
def n0F (l14 : List Pos) : Nat → List Pos
 | 0=>l14
 | _ + 1=>[]
theorem shineF_succ (I : PF) (fr to_ la : Int) (l15 l14 : List Pos) (k : Nat) : shineF I fr to_ la l15 l14 (k + 1) = litR I fr to_ la (15 - (k : Int)) (shineF I fr to_ la l15 l14 k).2 ((shineF I fr to_ la l15 l14 k).1,n0F l14 k) (shineF I fr to_ la l15 l14 k).2.length:=by
 unfold litR
 rw [List.take_length]
 cases k with
 | zero=>rfl
 | succ k=>show roundF _ _ _ _ _ _ _ = _;rw [if_neg (by omega)];rfl
theorem shineF_in {I : PF} {fr to_ la : Int} {l15 l14 : List Pos} (h5 : ∀ c ∈ l15,inF fr to_ la c) (h4 : ∀ c ∈ l14,inF fr to_ la c) (k : Nat) : ∀ c ∈ (shineF I fr to_ la l15 l14 k).2,inF fr to_ la c:=by
 cases k with
 | zero=>exact h5
 | succ k =>
   rw [shineF_succ]
   refine litR_in ?_ (Nat.le_refl _)
   cases k with
   | zero=>exact h4
   | succ k=>intro c hc;cases hc
theorem litR_bd {I : PF} {fr to_ la v : Int} {cur : List Pos} {st : (PF × Nat) × List Pos} (h1 : 0 ≤ fr) (h2 : to_ < 128) (h3 : la < 128) (hv : 0 < v) (hc : ∀ c ∈ cur,inF fr to_ la c) : ∀ {j : Nat},j ≤ cur.length → ∃ lit : List Pos,lit.Nodup ∧ (∀ b ∈ lit,inBox b ∧ 0 < getZ ((litR I fr to_ la v cur st j).1.1 b.x b.y)) ∧ (litR I fr to_ la v cur st j).2.length ≤ st.2.length + 4 * lit.length:=by
 intro j
 induction j with
 | zero=>intro _;exact ⟨[],List.nodup_nil,(fun b hb=>by cases hb),Nat.le_refl _⟩
 | succ j ih =>
   intro hj
   rw [litR_succ _ _ _ _ _ _ _ (by omega)]
   obtain ⟨lit,hn,hb,hl⟩:=ih (by omega)
   by_cases h : 0 < getZ ((litR I fr to_ la v cur st j).1.1 (elt .pos cur j).x (elt .pos cur j).y)
   · rw [litC_on h];exact ⟨lit,hn,hb,hl⟩
   · rw [litC_off h]
     have hci : inF fr to_ la (elt .pos cur j):=hc _ (List.mem_of_getElem? (elt_get .pos cur j (by omega)))
     have hal:=@askM_len I fr to_ la (putM (litR I fr to_ la v cur st j).1 (elt .pos cur j).x (elt .pos cur j).y v).1 (elt .pos cur j) (litR I fr to_ la v cur st j).2 4 (Nat.le_refl _)
     refine ⟨elt .pos cur j :: lit,List.nodup_cons.2 ⟨fun hm=>h (hb _ hm).2,hn⟩,fun b hm=>?_,?_⟩
     · show inBox b ∧ 0 < getZ (setF _ _ _ _ b.x b.y)
       unfold setF
       by_cases he : b.x = (elt .pos cur j).x ∧ b.y = (elt .pos cur j).y
       · rw [if_pos he]
         unfold inF at hci
         refine ⟨?_,hv⟩
         unfold inBox;omega
       · rw [if_neg he]
         rcases List.mem_cons.1 hm with rfl|hm
         · exact absurd ⟨rfl,rfl⟩ he
         · exact hb b hm
     · dsimp only
       rw [List.length_cons];omega
theorem litR_big {I : PF} {fr to_ la v : Int} {cur : List Pos} {st : (PF × Nat) × List Pos} (h1 : 0 ≤ fr) (h2 : to_ < 128) (h3 : la < 128) (hv : 0 < v) (hc : ∀ c ∈ cur,inF fr to_ la c) {j : Nat} (hj : j ≤ cur.length) : (litR I fr to_ la v cur st j).2.length ≤ st.2.length + 65536:=by
 obtain ⟨lit,hn,hb,hl⟩:=@litR_bd I fr to_ la v cur st h1 h2 h3 hv hc j hj
 have:=box_len hn fun b hm=>(hb b hm).1
 omega
theorem shineF_big {I : PF} {fr to_ la : Int} {l15 l14 : List Pos} (h1 : 0 ≤ fr) (h2 : to_ < 128) (h3 : la < 128) (i5 : ∀ c ∈ l15,inF fr to_ la c) (i4 : ∀ c ∈ l14,inF fr to_ la c) (h5 : l15.length ≤ 20000) (h4 : l14.length ≤ 20000) {k : Nat} (hk : k ≤ 15) : (shineF I fr to_ la l15 l14 k).2.length ≤ 100000:=by
 cases k with
 | zero=>show l15.length ≤ _;omega
 | succ k =>
   rw [shineF_succ]
   have:=@litR_big I fr to_ la (15 - (k : Int)) (shineF I fr to_ la l15 l14 k).2 ((shineF I fr to_ la l15 l14 k).1,n0F l14 k) h1 h2 h3 (by omega) (shineF_in i5 i4 k) _ (Nat.le_refl _)
   have h2 : (n0F l14 k).length ≤ 20000:=by
     cases k with
     | zero=>exact h4
     | succ k=>exact Nat.zero_le _
   dsimp only at this
   omega
theorem dir_pick {x y : Int} {d n m : Nat} {K : List AV → Prop} (hd : d < 4) (hn : n = d * 2) (hm : m = 2) (h : K [i64 (x + (dirD d).x),i64 (y + (dirD d).y)]) : dropK [i64 (x - 1),i64 y,i64 (x + 1),i64 y,i64 x,i64 (y - 1),i64 x,i64 (y + 1)] n fun l=>takeK l m K:=by
 subst hn hm
 have e : d = 0 ∨ d = 1 ∨ d = 2 ∨ d = 3:=by omega
 rcases e with rfl|rfl|rfl|rfl
 · rw [show x + (dirD 0).x = x - 1 from rfl,show y + (dirD 0).y = y + 0 from rfl,Int.add_zero] at h
   exact h
 · rw [show x + (dirD 1).x = x + 1 from rfl,show y + (dirD 1).y = y + 0 from rfl,Int.add_zero] at h
   exact h
 · rw [show y + (dirD 2).y = y - 1 from rfl,show x + (dirD 2).x = x + 0 from rfl,Int.add_zero] at h
   exact h
 · rw [show y + (dirD 3).y = y + 1 from rfl,show x + (dirD 3).x = x + 0 from rfl,Int.add_zero] at h
   exact h
theorem dirD_bd {d : Nat} (h : d < 4) : -1 ≤ (dirD d).x ∧ (dirD d).x ≤ 1 ∧ -1 ≤ (dirD d).y ∧ (dirD d).y ≤ 1:=by
 have e : d = 0 ∨ d = 1 ∨ d = 2 ∨ d = 3:=by omega
 rcases e with rfl|rfl|rfl|rfl<;>decide
abbrev byR (k : Nat) (a b : AV) : List AV:=List.drop (k - 14) (List.replicate (14 - k) nilS ++ (b :: a :: List.replicate k .top))
abbrev n0M (l14 : List Pos) (k : Nat) (m : Mem) : Mem:=match Nat.beq k 15 with
 | true=>m
 | false=>(350203 + 2 * k,.row .pos (n0F l14 k)) :: m
theorem push_yes {I : PF} {fr to_ la : Int} {F : PF} {nx : List Pos} {n : Pos} (h : opFB I fr to_ la n = true) (h2 : getZ (F n.x n.y) = 0) : pushN I fr to_ la F nx n = nx ++ [n]:=if_pos ⟨of_decide_eq_true h,h2⟩
theorem push_shut {I : PF} {fr to_ la : Int} {F : PF} {nx : List Pos} {n : Pos} (h : opFB I fr to_ la n = false) : pushN I fr to_ la F nx n = nx:=if_neg fun e=>of_decide_eq_false h e.1
theorem push_lit {I : PF} {fr to_ la : Int} {F : PF} {nx : List Pos} {n : Pos} (h2 : ¬ getZ (F n.x n.y) = 0) : pushN I fr to_ la F nx n = nx:=if_neg fun e=>h2 e.2
end Go.Proofs.Ytchdgiooggdfeaa
